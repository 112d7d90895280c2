/- Reservations: the reference's Fill, Clear, Open, Told, Oldest; Numbers. -/
import Derived.Test.YtmbgebmhdofdaaaY
import Derived.Test.YtmbgebmhdofdaaaI
set_option linter.unusedVariables false
set_option linter.unusedSimpArgs false
namespace Go.Proofs.Ytmbgebmhdofdaaa
open Go.RowKit Go.Own

set_option maxHeartbeats 1000000 in
theorem fillX_none (B q : Nat) (v : Value) (X : List Ox) (T s y : Int) (w : World) (hR : RepX w B q v X T) (hn : atX X s y = -1) :
    Calls Try.prog 37 #[.pointer (some ⟨q, 0, none⟩), .int .i64 s, .int .i64 y] w fun e w' => e = .returned (.tuple #[.int .i64 0, .int .i64 6]) ∧ w = w' := by
  have HA := Lib.hid (at_any B q v X T s y w hR)
  rw [hn] at HA
  clear hn
  go_enter Try.func37, Try.ntmps37
  go_wp2_with (go_at_call 22; refine HA.out.mono ?_; rintro e w1 ⟨rfl, rfl⟩)
  go_ret2
  exact ⟨rfl, rfl⟩
set_option maxHeartbeats 1000000 in
theorem clearX_none (B q : Nat) (v : Value) (X : List Ox) (T s y : Int) (w : World) (hR : RepX w B q v X T) (hn : atX X s y = -1) :
    Calls Try.prog 38 #[.pointer (some ⟨q, 0, none⟩), .int .i64 s, .int .i64 y] w fun e w' => e = .returned (.int .i64 6) ∧ Keep (fun _ => False) w w' := by
  have HA := Lib.hid (at_any B q v X T s y w hR)
  rw [hn] at HA
  clear hn
  go_enter Try.func38, Try.ntmps38
  go_wp2_with (go_at_call 22; refine HA.out.mono ?_; rintro e w1 ⟨rfl, rfl⟩)
  go_quiet (fail)
  go_wp2
  go_ret
  exact ⟨rfl, (by (repeat (first | exact Keep.refl _ _ | exact Keep.refl _ _ | refine Keep.drew ?_ | refine Keep.drewN ?_ _ | refine Keep.alloc ?_ _ | refine Keep.setNew ?_ (by omega) _)); done)⟩

set_option maxHeartbeats 2000000 in
theorem fillX_dup (B q k : Nat) (v : Value) (X : List Ox) (T s y : Int) (x : Ox) (j : Nat) (w : World) (hR : RepX w B q v X T) (hn : atX X s y = k) (hk : k < X.length) (he : X[k] = x) (hx : y = x.p + j) (hj : j < 8) (hbit : (x.b / 2 ^ j % 2 == 1) = true) :
    Calls Try.prog 37 #[.pointer (some ⟨q, 0, none⟩), .int .i64 s, .int .i64 y] w fun e w' => e = .returned (.tuple #[.int .i64 0, .int .i64 7]) ∧ Keep (fun _ => False) w w' := by
  have HA := Lib.hid (at_any B q v X T s y w hR)
  rw [hn] at HA
  obtain ⟨g, cap, rfl, hBg, hcap, hgl⟩ := hR.hv.form (by intro e; subst e; simp at hk)
  have hl := hR.hl
  have hbo := hR.hb _ (List.getElem_mem hk)
  rw [he] at hbo
  have b0 := bo_cell hbo hj
  rw [hbit] at b0
  have c5 := hR.c0
  obtain ⟨c0, c1, c2, c3, c4⟩ := ox_cells hR.hv hk
  rw [he] at c0 c1 c2 c3 c4
  obtain ⟨xs, xp, xf, xg, xc, xt, xb⟩ := x
  simp only at c0 c1 c2 c3 c4 hx b0
  have hsub : IntKind.i64.wrap (y - xp) = (j : Int) := by rw [hx]; rw [show xp + (j : Int) - xp = (j : Int) by omega]; exact IntWalk.i64_in _ (by omega)
  have hj8 : (j : Int) < 8 := by omega
  have k0 : decide ((k : Int) < 0) = false := by simp
  clear hn he hbo hbit hx
  go_enter Try.func37, Try.ntmps37
  go_wp2_with (go_at_call 22; refine HA.out.mono ?_; rintro e w1 ⟨rfl, rfl⟩)
  go_quiet (fail)
  go_wp2
  go_ret2
  exact ⟨rfl, (by (repeat (first | exact Keep.refl _ _ | exact Keep.refl _ _ | refine Keep.drew ?_ | refine Keep.drewN ?_ _ | refine Keep.alloc ?_ _ | refine Keep.setNew ?_ (by omega) _)); done)⟩

set_option maxHeartbeats 2000000 in
theorem clearX_no (B q k : Nat) (v : Value) (X : List Ox) (T s y : Int) (x : Ox) (j : Nat) (w : World) (hR : RepX w B q v X T) (hn : atX X s y = k) (hk : k < X.length) (he : X[k] = x) (hx : y = x.p + j) (hj : j < 8) (hbit : (x.b / 2 ^ j % 2 == 1) = false) :
    Calls Try.prog 38 #[.pointer (some ⟨q, 0, none⟩), .int .i64 s, .int .i64 y] w fun e w' => e = .returned (.int .i64 6) ∧ Keep (fun _ => False) w w' := by
  have HA := Lib.hid (at_any B q v X T s y w hR)
  rw [hn] at HA
  obtain ⟨g, cap, rfl, hBg, hcap, hgl⟩ := hR.hv.form (by intro e; subst e; simp at hk)
  have hl := hR.hl
  have hbo := hR.hb _ (List.getElem_mem hk)
  rw [he] at hbo
  have b0 := bo_cell hbo hj
  rw [hbit] at b0
  have c5 := hR.c0
  obtain ⟨c0, c1, c2, c3, c4⟩ := ox_cells hR.hv hk
  rw [he] at c0 c1 c2 c3 c4
  obtain ⟨xs, xp, xf, xg, xc, xt, xb⟩ := x
  simp only at c0 c1 c2 c3 c4 hx b0
  have hsub : IntKind.i64.wrap (y - xp) = (j : Int) := by rw [hx]; rw [show xp + (j : Int) - xp = (j : Int) by omega]; exact IntWalk.i64_in _ (by omega)
  have hj8 : (j : Int) < 8 := by omega
  have k0 : decide ((k : Int) < 0) = false := by simp
  clear hn he hbo hbit hx
  go_enter Try.func38, Try.ntmps38
  go_wp2_with (go_at_call 22; refine HA.out.mono ?_; rintro e w1 ⟨rfl, rfl⟩)
  go_quiet (fail)
  go_wp2
  go_ret
  exact ⟨rfl, (by (repeat (first | exact Keep.refl _ _ | exact Keep.refl _ _ | refine Keep.drew ?_ | refine Keep.drewN ?_ _ | refine Keep.alloc ?_ _ | refine Keep.setNew ?_ (by omega) _)); done)⟩

def FillX (w : World) (B q k : Nat) (v : Value) (X : List Ox) (T : Int) (x : Ox) (b' : Nat) (r : Value) (e : Ending) (w' : World) : Prop :=
  e = .returned r ∧ ∃ g1 c1, RepX w' B q v (X.set k ⟨x.s, x.p, x.f, g1, c1, T + 1, b'⟩) (T + 1) ∧ Keep (fun y => y = q ∨ v.ownBlock = some y) w w' ∧ w.heap.size ≤ g1

set_option maxRecDepth 100000 in
set_option maxHeartbeats 2000000 in
theorem fillX_new (B q k : Nat) (v : Value) (X : List Ox) (T s y : Int) (x : Ox) (j b' : Nat) (w : World) (hB : B ≤ w.heap.size) (hR : RepX w B q v X T) (hn : atX X s y = k) (hk : k < X.length) (he : X[k] = x) (hx : y = x.p + j) (hj : j < 8) (hbit : (x.b / 2 ^ j % 2 == 1) = false)
    (hb : bl b' = (bl x.b).set j true) (hb2 : b' < 256) (hT : T < 1000) :
    Calls Try.prog 37 #[.pointer (some ⟨q, 0, none⟩), .int .i64 s, .int .i64 y] w (FillX w B q k v X T x b' (.tuple #[.int .i64 (x.f + y - x.p), .int .i64 0])) := by
  have HA := Lib.hid (at_any B q v X T s y w hR)
  rw [hn] at HA
  have HT : Hid (∀ W, Keep (fun _ => False) w W → Calls Try.prog 45 #[.pointer (some ⟨q, 0, none⟩), .int .i64 k, .int .i64 y, .bool true] W (TurnC W B q k v X T x b')) := fun W kk => turn_any B q k v X T y x j true b' W (by have := kk.size; omega) (hR.keep0 kk) hk he hx hj hb hb2 hT
  obtain ⟨g, cap, rfl, hBg, hcap, hgl⟩ := hR.hv.form (by intro e; subst e; simp at hk)
  have hl := hR.hl
  have hfx := hR.hf _ (List.getElem_mem hk)
  have hbo := hR.hb _ (List.getElem_mem hk)
  rw [he] at hbo hfx
  have b0 := bo_cell hbo hj
  rw [hbit] at b0
  have c5 := hR.c0
  obtain ⟨c0, c1, c2, c3, c4⟩ := ox_cells hR.hv hk
  rw [he] at c0 c1 c2 c3 c4
  obtain ⟨xs, xp, xf, xg, xc, xt, xb⟩ := x
  simp only at c0 c1 c2 c3 c4 hx b0 hfx ⊢
  have hsub : IntKind.i64.wrap (y - xp) = (j : Int) := by rw [hx]; rw [show xp + (j : Int) - xp = (j : Int) by omega]; exact IntWalk.i64_in _ (by omega)
  have hwa : IntKind.i64.wrap (xf + y) = xf + y := IntWalk.i64_in _ (by omega)
  have hwb : IntKind.i64.wrap (xf + y - xp) = xf + y - xp := IntWalk.i64_in _ (by omega)
  have hj8 : (j : Int) < 8 := by omega
  have k0 : decide ((k : Int) < 0) = false := by simp
  have hpl := block_lt hR.hp
  clear hn he hbo hbit hx hfx hb
  go_enter Try.func37, Try.ntmps37
  go_wp2_with (go_at_call 22; refine HA.out.mono ?_; rintro e w1 ⟨rfl, rfl⟩)
  go_quiet (fail)
  go_wp2_with fail
  refine (HT.out _ (by (repeat (first | exact Keep.refl _ _ | exact Keep.refl _ _ | refine Keep.drew ?_ | refine Keep.drewN ?_ _ | refine Keep.alloc ?_ _ | refine Keep.setNew ?_ (by omega) _)); done)).mono ?_
  rintro e w2 ⟨rfl, g1, cc1, hR2, hk2, hg2⟩
  have HR2 := Lib.hid hR2
  have HK2 := Lib.hid hk2
  simp only at hR2
  have hlen : (X.set k ⟨xs, xp, xf, g1, cc1, T + 1, b'⟩).length = X.length := List.length_set
  have hk' : k < (X.set k ⟨xs, xp, xf, g1, cc1, T + 1, b'⟩).length := by rw [hlen]; exact hk
  clear b0 c5 c0 c1 c2 c3 c4
  have c5 := hR2.c0
  obtain ⟨c0, c1, c2, c3, c4⟩ := ox_cells hR2.hv hk'
  simp only [List.getElem_set_self] at c0 c1 c2 c3 c4
  clear hR2 hk2
  go_wp2
  go_quiet (fail)
  go_wp2
  go_ret2
  exact ⟨rfl, g1, cc1, HR2.out.keep0 (by (repeat (first | exact Keep.refl _ _ | exact Keep.refl _ _ | refine Keep.drew ?_ | refine Keep.drewN ?_ _ | refine Keep.alloc ?_ _ | refine Keep.setNew ?_ (by omega) _)); done), (Keep.trans ((Keep.refl _ w).drewN _) HK2.out).drewN _, hg2⟩

set_option maxRecDepth 100000 in
set_option maxHeartbeats 2000000 in
theorem clearX_yes (B q k : Nat) (v : Value) (X : List Ox) (T s y : Int) (x : Ox) (j b' : Nat) (w : World) (hB : B ≤ w.heap.size) (hR : RepX w B q v X T) (hn : atX X s y = k) (hk : k < X.length) (he : X[k] = x) (hx : y = x.p + j) (hj : j < 8) (hbit : (x.b / 2 ^ j % 2 == 1) = true)
    (hb : bl b' = (bl x.b).set j false) (hb2 : b' < 256) (hT : T < 1000) :
    Calls Try.prog 38 #[.pointer (some ⟨q, 0, none⟩), .int .i64 s, .int .i64 y] w (FillX w B q k v X T x b' (.int .i64 0)) := by
  have HA := Lib.hid (at_any B q v X T s y w hR)
  rw [hn] at HA
  have HT : Hid (∀ W, Keep (fun _ => False) w W → Calls Try.prog 45 #[.pointer (some ⟨q, 0, none⟩), .int .i64 k, .int .i64 y, .bool false] W (TurnC W B q k v X T x b')) := fun W kk => turn_any B q k v X T y x j false b' W (by have := kk.size; omega) (hR.keep0 kk) hk he hx hj hb hb2 hT
  obtain ⟨g, cap, rfl, hBg, hcap, hgl⟩ := hR.hv.form (by intro e; subst e; simp at hk)
  have hl := hR.hl
  have hbo := hR.hb _ (List.getElem_mem hk)
  rw [he] at hbo
  have b0 := bo_cell hbo hj
  rw [hbit] at b0
  have c5 := hR.c0
  obtain ⟨c0, c1, c2, c3, c4⟩ := ox_cells hR.hv hk
  rw [he] at c0 c1 c2 c3 c4
  obtain ⟨xs, xp, xf, xg, xc, xt, xb⟩ := x
  simp only at c0 c1 c2 c3 c4 hx b0 ⊢
  have hsub : IntKind.i64.wrap (y - xp) = (j : Int) := by rw [hx]; rw [show xp + (j : Int) - xp = (j : Int) by omega]; exact IntWalk.i64_in _ (by omega)
  have hj8 : (j : Int) < 8 := by omega
  have k0 : decide ((k : Int) < 0) = false := by simp
  clear hn he hbo hbit hx hb
  go_enter Try.func38, Try.ntmps38
  go_wp2_with (go_at_call 22; refine HA.out.mono ?_; rintro e w1 ⟨rfl, rfl⟩)
  go_quiet (fail)
  go_wp2_with fail
  refine (HT.out _ (by (repeat (first | exact Keep.refl _ _ | exact Keep.refl _ _ | refine Keep.drew ?_ | refine Keep.drewN ?_ _ | refine Keep.alloc ?_ _ | refine Keep.setNew ?_ (by omega) _)); done)).mono ?_
  rintro e w2 ⟨rfl, g1, cc1, hR2, hk2, hg2⟩
  have HR2 := Lib.hid hR2
  have HK2 := Lib.hid hk2
  clear b0 c5 c0 c1 c2 c3 c4 hR2 hk2
  go_wp2
  go_ret
  exact ⟨rfl, g1, cc1, HR2.out, Keep.trans ((Keep.refl _ w).drewN _) HK2.out, hg2⟩

def opX (x : Ox) : List Int := opN x.f x.b 8
def oxV (x : Ox) : Value := .agg #[.int .i64 x.s, .int .i64 x.p, .int .i64 x.f, x.v, .int .i64 x.t]

set_option maxHeartbeats 2000000 in
theorem openX_any (B : Nat) (x : Ox) (hf : 0 ≤ x.f ∧ x.f ≤ 1016) (w : World) (hO : OwnL boE w B 4 x.v (bl x.b)) :
    Calls Try.prog 34 #[oxV x] w fun e w' => ∃ v', e = .returned v' ∧ OwnL inE w' w.heap.size 3 v' (opX x) ∧ Keep (fun _ => False) w w' := by
  obtain ⟨xs, xp, xf, xg, xc, xt, xb⟩ := x
  unfold oxV opX Ox.v
  unfold Ox.v at hO
  simp only at hf hO ⊢
  have KB : Hid (Keep (fun _ => False) w (w.alloc (.cells #[.int .i64 xs, .int .i64 xp, .int .i64 xf, .slice (some ⟨xg, 0, none⟩) 8 xc, .int .i64 xt] 53))) := (Keep.refl _ _).alloc _
  have HB : Hid ((w.alloc (.cells #[.int .i64 xs, .int .i64 xp, .int .i64 xf, .slice (some ⟨xg, 0, none⟩) 8 xc, .int .i64 xt] 53)).heap[w.heap.size]? = some (.cells #[.int .i64 xs, .int .i64 xp, .int .i64 xf, .slice (some ⟨xg, 0, none⟩) 8 xc, .int .i64 xt] 53 (0, 0))) := heap_alloc_new w _
  have hgl : xg < w.heap.size := (hO.lt xg rfl).2
  go_enter Try.func34, Try.ntmps34
  go_wp2
  go_loopw [3, 4] (fun o i wr => ∃ k : Nat, k ≤ 8 ∧ i = .int .i64 k ∧ ∃ o' : Value, o' = o ∧ OwnL inE wr (w.heap.size + 1) 3 o' (opN xf xb k) ∧ Keep (fun x => w.heap.size < x) (w.alloc (.cells #[.int .i64 xs, .int .i64 xp, .int .i64 xf, .slice (some ⟨xg, 0, none⟩) 8 xc, .int .i64 xt] 53)) wr) (fun _ i _ => 8 - (intOf i).toNat)
  case atStart => exact ⟨0, by omega, rfl, _, rfl, OwnL.nil _ _ _, Keep.refl _ _⟩
  case round =>
    obtain ⟨k, hk, rfl, o, ho, hOo, hkeep⟩ := hrel
    subst ho
    have HO := Lib.hid hOo
    have HK := Lib.hid hkeep
    obtain ⟨b0, b1, b2, b3, b4⟩ := cells5 ((hkeep.block _ (block_lt HB.out) (by omega)).trans HB.out)
    have hsz := hkeep.size
    simp at hsz
    have hll := opN_len xf xb k
    by_cases hlt : k < 8
    · have b5 := bo_cell ((hO.keep KB.out (fun _ _ => id)).keep hkeep (fun z hz => by simp [Value.ownBlock] at hz; omega)) hlt
      have hw : IntKind.i64.wrap (xf + (k : Int)) = xf + (k : Int) := IntWalk.i64_in _ (by omega)
      have hk8 : (k : Int) < 8 := by omega
      clear hOo hkeep
      by_cases e : xb / 2 ^ k % 2 = 0
      · have e' : (xb / 2 ^ k % 2 == 1) = false := by simp; omega
        have hF : Hid (opN xf xb (k + 1) = opN xf xb k ++ [xf + k]) := by unfold Hid; show opN xf xb k ++ _ = _; rw [if_pos e]
        rw [e'] at b5
        clear e e'
        obtain ⟨ao, co, rfl, -⟩ := HO.out.slice
        go_wp2_with (at_builtin; (refine wpl_app et42 rfl (.tmp 15) (.tmp 20) rfl (w.heap.size + 1) _ _ _ rfl (HO.out.keep (S := fun _ => False) (by (repeat (first | exact Keep.refl _ _ | exact Keep.refl _ _ | refine Keep.drew ?_ | refine Keep.drewN ?_ _ | refine Keep.alloc ?_ _ | refine Keep.setNew ?_ (by omega) _)); done) (fun _ _ => id)) (.slice (some ⟨wr.heap.size, 0, none⟩) 1 1) 1 [.int .i64 (xf + k)] (by first | rfl | simp [Act.eval]) (Reads.new (heap_alloc_new wr _) rfl 1) (by simp [Value.oneCell']) (by unfold maxLen; omega) (by omega) (by simp; omega) ?_; intro v1 w1 hown1 hgrow1; have HK1 : Hid (Keep (fun x => w.heap.size < x) wr w1) := Keep.grown (by (repeat (first | exact Keep.refl _ _ | exact Keep.refl _ _ | refine Keep.drew ?_ | refine Keep.drewN ?_ _ | refine Keep.alloc ?_ _ | refine Keep.setNew ?_ (by omega) _)); done) hgrow1 (fun x h1 h2 => by have := (HO.out.lt x h1).1; omega); have HO1 : Hid (OwnL inE w1 (w.heap.size + 1) 3 v1 (opN xf xb (k + 1))) := (by unfold Hid; rw [hF.out]; unfold OwnL; rw [List.length_append, inE.cs_append, inE.cs_one]; exact hown1); clear hown1 hgrow1))
        go_roundw
        case rel => exact ⟨k + 1, by omega, by go_num, _, rfl, HO1.out, HK.out.trans HK1.out⟩
        case measure => simp [intOf]; omega
      · have e' : (xb / 2 ^ k % 2 == 1) = true := by simp; omega
        have hF : Hid (opN xf xb (k + 1) = opN xf xb k) := by unfold Hid; show opN xf xb k ++ _ = _; rw [if_neg e]; simp
        rw [e'] at b5
        clear e e'
        go_wp2
        go_roundw
        case rel => exact ⟨k + 1, by omega, by go_num, _, rfl, by rw [hF.out]; exact HO.out, HK.out⟩
        case measure => simp [intOf]; omega
    · obtain rfl : k = 8 := by omega
      clear hOo hkeep
      go_wp2
      go_ret
      exact ⟨o, rfl, HO.out.base (fun z hz => by have := (HO.out.lt z hz).1; omega), (KB.out.mono (T := fun z => w.heap.size ≤ z) (fun _ _ h => h.elim)).trans (HK.out.mono (fun z _ h => by omega)) |>.fresh (fun _ h => h) (Nat.le_refl _)⟩

theorem half_step (b k : Nat) : b / 2 ^ k = b / 2 ^ (k + 1) * 2 + b / 2 ^ k % 2 := by
  rw [Nat.pow_succ, ← Nat.div_div_eq_div_mul]; omega
theorem half_lt {b : Nat} (hb : b < 256) (k : Nat) : b / 2 ^ k < 256 := Nat.lt_of_le_of_lt (Nat.div_le_self _ _) hb

set_option maxHeartbeats 2000000 in
theorem told_any (B : Nat) (x : Ox) (hb : x.b < 256) (w : World) (hO : OwnL boE w B 4 x.v (bl x.b)) :
    Calls Try.prog 19 #[oxV x] w fun e w' => e = .returned (rvV x.rv) ∧ Keep (fun _ => False) w w' := by
  obtain ⟨xs, xp, xf, xg, xc, xt, xb⟩ := x
  unfold oxV Ox.v Ox.rv rvV
  unfold Ox.v at hO
  simp only at hb hO ⊢
  have K0 : Hid (Keep (fun _ => False) w ((w.alloc (.cells #[.int .i64 xs, .int .i64 xp, .int .i64 xf, .slice (some ⟨xg, 0, none⟩) 8 xc, .int .i64 xt] 53)).alloc (.cells #[.int .i64 0, .int .i64 0, .int .i64 0, .int .u8 0] 31))) := (by (repeat (first | exact Keep.refl _ _ | exact Keep.refl _ _ | refine Keep.drew ?_ | refine Keep.drewN ?_ _ | refine Keep.alloc ?_ _ | refine Keep.setNew ?_ (by omega) _)); done)
  have HX := Lib.hid (cells5 (w := (w.alloc (.cells #[.int .i64 xs, .int .i64 xp, .int .i64 xf, .slice (some ⟨xg, 0, none⟩) 8 xc, .int .i64 xt] 53)).alloc (.cells #[.int .i64 0, .int .i64 0, .int .i64 0, .int .u8 0] 31)) (b := w.heap.size) (e := 53) (z := (0, 0)) (x0 := .int .i64 xs) (x1 := .int .i64 xp) (x2 := .int .i64 xf) (x3 := .slice (some ⟨xg, 0, none⟩) 8 xc) (x4 := .int .i64 xt) (by simp only [heap_alloc_at, heap_drewN, heap_drew, World.size_alloc, Nat.left_eq_add, Nat.add_eq_left, Nat.reduceEqDiff, reduceIte, Nat.succ_ne_self, Nat.add_left_cancel_iff]))
  have hO1 := hO.keep K0.out (fun _ _ => id)
  have hgl : xg < w.heap.size := (hO.lt xg rfl).2
  obtain ⟨x0, x1, x2, x3, x4⟩ := HX.out
  go_enter Try.func19, Try.ntmps19
  go_wp2
  go_loop [3, 4] (fun f i => ∃ k : Nat, k ≤ 8 ∧ i = .int .i64 ((k : Int) - 1) ∧ f = .int .u8 ((xb / 2 ^ k : Nat) : Int)) (fun _ i => (intOf i + 1).toNat)
  case atStart => exact ⟨8, by omega, rfl, by rw [Nat.div_eq_of_lt (by omega)]; rfl⟩
  case round =>
    obtain ⟨k, hk, rfl, rfl⟩ := hrel
    by_cases hk0 : k = 0
    · subst hk0
      go_wp2
      exact bodyPost_ret (v := .agg #[.int .i64 xs, .int .i64 xp, .int .i64 xf, .int .u8 xb]) (by simp [results, Try.results19, go_sem]) rfl ⟨rfl, (by (repeat (first | exact K0.out | exact Keep.refl _ _ | refine Keep.drew ?_ | refine Keep.drewN ?_ _ | refine Keep.alloc ?_ _ | refine Keep.setNew ?_ (by omega) _)); done)⟩
    · obtain ⟨m, rfl⟩ : ∃ m, k = m + 1 := ⟨k - 1, by omega⟩
      have b5 := bo_cell hO1 (i := m) (by omega)
      have hst := half_step xb m
      have hlt := half_lt hb m
      have hm1 : ((m + 1 : Nat) : Int) - 1 = (m : Int) := by omega
      rw [hm1]
      have hm8 : (m : Int) < 8 := by omega
      obtain ⟨h1, hh1⟩ : ∃ z, xb / 2 ^ (m + 1) = z := ⟨_, rfl⟩
      obtain ⟨h0, hh0⟩ : ∃ z, xb / 2 ^ m = z := ⟨_, rfl⟩
      rw [hh1, hh0] at hst
      rw [hh0] at b5 hlt
      rw [hh1]
      have HH0 := Lib.hid hh0
      clear hh0 hh1 hm1
      have hw2 : IntKind.u8.wrap ((h1 : Int) * 2) = (h1 : Int) * 2 := by simp [IntKind.wrap, IntKind.bits, IntKind.signed]; omega
      by_cases e : h0 % 2 = 1
      · have e' : (h0 % 2 == 1) = true := by simpa using e
        rw [e'] at b5
        have HE : Hid ((h1 : Int) * 2 + 1 = (h0 : Int)) := by unfold Hid; omega
        have hw3 : IntKind.u8.wrap ((h1 : Int) * 2 + 1) = (h1 : Int) * 2 + 1 := by simp [IntKind.wrap, IntKind.bits, IntKind.signed]; omega
        clear e e' hst
        go_wp2
        go_round
        case rel => exact ⟨m, by omega, by go_num, by rw [HE.out, HH0.out]⟩
        case measure => simp [intOf]
      · have e' : (h0 % 2 == 1) = false := by simpa using e
        rw [e'] at b5
        have HE : Hid ((h1 : Int) * 2 = (h0 : Int)) := by unfold Hid; omega
        clear e e' hst
        go_wp2
        go_round
        case rel => exact ⟨m, by omega, by go_num, by rw [HE.out, HH0.out]⟩
        case measure => simp [intOf]

end Go.Proofs.Ytmbgebmhdofdaaa
