/- Compounds: the reference loses, regains, splits. -/
import Derived.Test.YtdomdjfecnbenaaAC
set_option linter.unusedVariables false
set_option linter.unusedSimpArgs false
namespace Go.Proofs.Ytdomdjfecnbenaa
open Go.RowKit Go.Own

def turnS (b b' : Nat) (s T : Int) : Int := if b = 0 then T + 1 else sn2 b' s
theorem turn_any (B q k : Nat) (v : Value) (X : List On) (T : Int) (x d j : Nat) (to : Bool) (b' : Nat) (w : World) (hB : B ≤ w.heap.size) (hR : RepX w B q v X T) (hk : k < X.length) (hd : X[k].f = (d : Int)) (hx : x = d + j) (hj : j < 8)
    (hb : bl b' = (bl X[k].b).set j to) (hb2 : b' < 256) (hT : T < 1000) (h01 : X[k].b = 0 → b' ≠ 0) :
    Calls Try.prog 47 #[.pointer (some ⟨q, 0, none⟩), .int .i64 k, .int .i64 x, .bool to] w (TurnC w B q k v X T d (turnS X[k].b b' X[k].s T) b') := by
  unfold turnS
  by_cases h0 : X[k].b = 0
  · rw [if_pos h0]; exact turn_one B q k v X T x d j to b' w hB hR hk hd hx hj hb hb2 hT h0 (h01 h0)
  · rw [if_neg h0]; exact turn_two B q k v X T x d j to b' w hB hR hk hd hx hj hb hb2 hT h0

theorem rmv_setX {α : Type} {L : List α} {k : Nat} (y : α) : rmv (L.set k y) k = rmv L k := by
  unfold rmv; rw [List.take_set_of_le (Nat.le_refl _), List.drop_set_of_lt (by omega)]

set_option maxHeartbeats 400000 in
theorem loseX_none (B q : Nat) (v : Value) (X : List On) (T : Int) (f : Int) (w : World) (hR : RepX w B q v X T) (hn : atX X f = -1) :
    Calls Try.prog 42 #[.pointer (some ⟨q, 0, none⟩), .int .i64 f] w fun e w' => e = .returned (.tuple #[.bool false, .int .i64 6]) ∧ w = w' := by
  have HN := Lib.hid hn
  clear hn
  go_enter Try.func42, Try.ntmps42
  go_wp2_with (go_at_call 17; refine (at_any B q v X T f _ hR).mono ?_; rw [HN.out]; rintro e w1 ⟨rfl, rfl⟩)
  go_ret2
  exact ⟨rfl, rfl⟩
set_option maxHeartbeats 400000 in
theorem regainX_none (B q : Nat) (v : Value) (X : List On) (T : Int) (f : Int) (w : World) (hR : RepX w B q v X T) (hn : atX X f = -1) :
    Calls Try.prog 43 #[.pointer (some ⟨q, 0, none⟩), .int .i64 f] w fun e w' => e = .returned (.int .i64 6) ∧ w = w' := by
  have HN := Lib.hid hn
  clear hn
  go_enter Try.func43, Try.ntmps43
  go_wp2_with (go_at_call 17; refine (at_any B q v X T f _ hR).mono ?_; rw [HN.out]; rintro e w1 ⟨rfl, rfl⟩)
  go_ret
  exact ⟨rfl, rfl⟩
set_option maxHeartbeats 400000 in
theorem splitX_none (B q : Nat) (v : Value) (X : List On) (T : Int) (f : Int) (w : World) (hR : RepX w B q v X T) (hn : atX X f = -1) :
    Calls Try.prog 44 #[.pointer (some ⟨q, 0, none⟩), .int .i64 f] w fun e w' => e = .returned (.tuple #[.slice none 0 0, .int .i64 6]) ∧ w = w' := by
  have HN := Lib.hid hn
  clear hn
  go_enter Try.func44, Try.ntmps44
  go_wp2_with (go_at_call 17; refine (at_any B q v X T f _ hR).mono ?_; rw [HN.out]; rintro e w1 ⟨rfl, rfl⟩)
  go_ret2
  exact ⟨rfl, rfl⟩

set_option maxRecDepth 100000 in
set_option maxHeartbeats 1000000 in
theorem loseX_dup (B q i : Nat) (v : Value) (X : List On) (T : Int) (x d j : Nat) (w : World) (hR : RepX w B q v X T) (hn : atX X (x : Int) = i) (hk : i < X.length) (hd : X[i].f = (d : Int)) (hx : x = d + j) (hj : j < 8) (hbit : (X[i].b / 2 ^ j % 2 == 1) = true) :
    Calls Try.prog 42 #[.pointer (some ⟨q, 0, none⟩), .int .i64 x] w fun e w' => e = .returned (.tuple #[.bool false, .int .i64 7]) ∧ Keep (fun _ => False) w w' := by
  have HN := Lib.hid hn
  obtain ⟨g, cap, rfl, hBg, hcap, hgl⟩ := hR.hv.form (by intro e; subst e; simp at hk)
  have hl := hR.hl
  have hi0 : (0 : Int) ≤ i := by omega
  have c3 := hR.c0
  obtain ⟨c0, c1, c2⟩ := on_cells hR.hv hk
  have c4 := bo_cell (hR.hb _ (List.getElem_mem hk)) hj
  rw [hbit] at c4
  rw [hd] at c0
  have hfx := (hR.hf _ (List.getElem_mem hk)).2.1
  have hsub : IntKind.i64.wrap ((x : Int) - (d : Int)) = (j : Int) := by rw [show (x : Int) - d = j by omega]; exact IntWalk.i64_in _ (by omega)
  have hsub2 : (x : Int) - (d : Int) = (j : Int) := by omega
  have j0 : (0 : Int) ≤ j := by omega
  have j8 : (j : Int) < 8 := by omega
  clear hn hd hbit c2 hx
  go_enter Try.func42, Try.ntmps42
  go_wp2_with (go_at_call 17; refine (at_any B q _ X T x _ hR).mono ?_; rw [HN.out]; rintro e w1 ⟨rfl, rfl⟩)
  go_quiet (fail)
  go_wp2
  go_ret2
  exact ⟨rfl, (by (repeat (first | exact Keep.refl _ _ | exact Keep.refl _ _ | refine Keep.drew ?_ | refine Keep.drewN ?_ _ | refine Keep.alloc ?_ _ | refine Keep.setNew ?_ (by omega) _)); done)⟩

set_option maxRecDepth 100000 in
set_option maxHeartbeats 1000000 in
theorem regainX_no (B q i : Nat) (v : Value) (X : List On) (T : Int) (x d j : Nat) (w : World) (hR : RepX w B q v X T) (hn : atX X (x : Int) = i) (hk : i < X.length) (hd : X[i].f = (d : Int)) (hx : x = d + j) (hj : j < 8) (hbit : (X[i].b / 2 ^ j % 2 == 1) = false) :
    Calls Try.prog 43 #[.pointer (some ⟨q, 0, none⟩), .int .i64 x] w fun e w' => e = .returned (.int .i64 5) ∧ Keep (fun _ => False) w w' := by
  have HN := Lib.hid hn
  obtain ⟨g, cap, rfl, hBg, hcap, hgl⟩ := hR.hv.form (by intro e; subst e; simp at hk)
  have hl := hR.hl
  have hi0 : (0 : Int) ≤ i := by omega
  have c3 := hR.c0
  obtain ⟨c0, c1, c2⟩ := on_cells hR.hv hk
  have c4 := bo_cell (hR.hb _ (List.getElem_mem hk)) hj
  rw [hbit] at c4
  rw [hd] at c0
  have hfx := (hR.hf _ (List.getElem_mem hk)).2.1
  have hsub : IntKind.i64.wrap ((x : Int) - (d : Int)) = (j : Int) := by rw [show (x : Int) - d = j by omega]; exact IntWalk.i64_in _ (by omega)
  have hsub2 : (x : Int) - (d : Int) = (j : Int) := by omega
  have j0 : (0 : Int) ≤ j := by omega
  have j8 : (j : Int) < 8 := by omega
  clear hn hd hbit c2 hx
  go_enter Try.func43, Try.ntmps43
  go_wp2_with (go_at_call 17; refine (at_any B q _ X T x _ hR).mono ?_; rw [HN.out]; rintro e w1 ⟨rfl, rfl⟩)
  go_quiet (fail)
  go_wp2
  go_ret
  exact ⟨rfl, (by (repeat (first | exact Keep.refl _ _ | exact Keep.refl _ _ | refine Keep.drew ?_ | refine Keep.drewN ?_ _ | refine Keep.alloc ?_ _ | refine Keep.setNew ?_ (by omega) _)); done)⟩

def RegX (w : World) (B q i j : Nat) (v : Value) (X : List On) (T : Int) (hk : i < X.length) (e : Ending) (w' : World) : Prop :=
  e = .returned (.int .i64 0) ∧ ∃ g1 c1, RepX w' B q v (X.set i ⟨X[i].f, g1, c1, turnS X[i].b (X[i].b &&& (255 - 2 ^ j)) X[i].s T, X[i].b &&& (255 - 2 ^ j)⟩) (T + 1) ∧ Keep (fun y => y = q ∨ v.ownBlock = some y) w w'

set_option maxRecDepth 100000 in
set_option maxHeartbeats 1000000 in
theorem regainX_yes (B q i : Nat) (v : Value) (X : List On) (T : Int) (x d j : Nat) (w : World) (hB : B ≤ w.heap.size) (hR : RepX w B q v X T) (hT : T < 1000) (hn : atX X (x : Int) = i) (hk : i < X.length) (hd : X[i].f = (d : Int)) (hx : x = d + j) (hj : j < 8) (hbit : (X[i].b / 2 ^ j % 2 == 1) = true) (h01 : X[i].b ≠ 0) :
    Calls Try.prog 43 #[.pointer (some ⟨q, 0, none⟩), .int .i64 x] w (RegX w B q i j v X T hk) := by
  have HN := Lib.hid hn
  have hc := hR.hc _ (List.getElem_mem hk)
  have hb' : X[i].b &&& (255 - 2 ^ j) < 256 := Nat.lt_of_le_of_lt Nat.and_le_left hc
  have HT := Lib.hid fun (W : World) (h1 : B ≤ W.heap.size) h2 => turn_any B q i v X T x d j false (X[i].b &&& (255 - 2 ^ j)) W h1 h2 hk hd hx hj (bl_and ⟨_, hc⟩ ⟨j, hj⟩) hb' hT (fun h => absurd h h01)
  obtain ⟨g, cap, rfl, hBg, hcap, hgl⟩ := hR.hv.form (by intro e; subst e; simp at hk)
  have hl := hR.hl
  have hi0 : (0 : Int) ≤ i := by omega
  have c3 := hR.c0
  obtain ⟨c0, c1, c2⟩ := on_cells hR.hv hk
  have c4 := bo_cell (hR.hb _ (List.getElem_mem hk)) hj
  rw [hbit] at c4
  have HD := Lib.hid hd
  rw [hd] at c0
  have hfx := (hR.hf _ (List.getElem_mem hk)).2.1
  have hsub : IntKind.i64.wrap ((x : Int) - (d : Int)) = (j : Int) := by rw [show (x : Int) - d = j by omega]; exact IntWalk.i64_in _ (by omega)
  have hsub2 : (x : Int) - (d : Int) = (j : Int) := by omega
  have j0 : (0 : Int) ≤ j := by omega
  have j8 : (j : Int) < 8 := by omega
  clear hn hd hbit c2 hx
  go_enter Try.func43, Try.ntmps43
  go_wp2_with (go_at_call 17; refine (at_any B q _ X T x _ hR).mono ?_; rw [HN.out]; rintro e w1 ⟨rfl, rfl⟩)
  go_quiet (fail)
  go_wp2_with (go_at_call 47; refine (HT.out _ (by simp; omega) (hR.keep0 (by (repeat (first | exact Keep.refl _ _ | exact Keep.refl _ _ | refine Keep.drew ?_ | refine Keep.drewN ?_ _ | refine Keep.alloc ?_ _ | refine Keep.setNew ?_ (by omega) _)); done))).mono ?_; rintro e w2 ⟨rfl, hrest⟩; have HRT := Lib.hid hrest; clear hrest)
  go_ret
  obtain ⟨g1, c1, h1, h2, h3⟩ := HRT.out
  exact ⟨rfl, g1, c1, by rw [HD.out]; exact h1, ((by (repeat (first | exact Keep.refl _ _ | exact Keep.refl _ _ | refine Keep.drew ?_ | refine Keep.drewN ?_ _ | refine Keep.alloc ?_ _ | refine Keep.setNew ?_ (by omega) _)); done) : Keep (fun y => _) w _).trans h2⟩

def LoseX (w : World) (B q i j : Nat) (v : Value) (X : List On) (T : Int) (hk : i < X.length) (e : Ending) (w' : World) : Prop :=
  (X[i].b ||| 2 ^ j ≠ 255 → e = .returned (.tuple #[.bool false, .int .i64 0]) ∧ ∃ g1 c1, RepX w' B q v (X.set i ⟨X[i].f, g1, c1, turnS X[i].b (X[i].b ||| 2 ^ j) X[i].s T, X[i].b ||| 2 ^ j⟩) (T + 1) ∧ Keep (fun y => y = q ∨ v.ownBlock = some y) w w') ∧
  (X[i].b ||| 2 ^ j = 255 → e = .returned (.tuple #[.bool true, .int .i64 0]) ∧ ∃ v', RepX w' B q v' (rmv X i) (T + 1) ∧ Keep (fun y => y = q ∨ v.ownBlock = some y) w w' ∧ (∀ y, v'.ownBlock = some y → w.heap.size ≤ y))

theorem pow_j {j : Nat} (hj : j < 8) : 0 < 2 ^ j ∧ 2 ^ j < 256 := ⟨Nat.pow_pos (by decide), by have := Nat.pow_le_pow_right (show 0 < 2 by decide) (show j ≤ 7 by omega); omega⟩

set_option maxRecDepth 100000 in
set_option maxHeartbeats 4000000 in
theorem loseX_yes (B q i : Nat) (v : Value) (X : List On) (T : Int) (x d j : Nat) (w : World) (hB : B ≤ w.heap.size) (hR : RepX w B q v X T) (hT : T < 1000) (hn : atX X (x : Int) = i) (hk : i < X.length) (hd : X[i].f = (d : Int)) (hx : x = d + j) (hj : j < 8) (hbit : (X[i].b / 2 ^ j % 2 == 1) = false) :
    Calls Try.prog 42 #[.pointer (some ⟨q, 0, none⟩), .int .i64 x] w (LoseX w B q i j v X T hk) := by
  have HN := Lib.hid hn
  have hc := hR.hc _ (List.getElem_mem hk)
  have hb' : X[i].b ||| 2 ^ j < 256 := Nat.or_lt_two_pow (n := 8) (by omega) (by have := pow_j hj; omega)
  have hnz : X[i].b ||| 2 ^ j ≠ 0 := fun e => by
    have := pow_j hj
    have h2 : 2 ^ j ≤ X[i].b ||| 2 ^ j := Nat.right_le_or
    omega
  have hp8 : (((pcN (X[i].b ||| 2 ^ j) 8 : Nat) : Int) == 8) = decide (X[i].b ||| 2 ^ j = 255) := by
    have := pc_all ⟨_, hb'⟩
    simp only [eq_iff_iff] at this
    rw [Bool.eq_iff_iff]; simp; omega
  have HP8 := Lib.hid hp8
  have HT := Lib.hid fun (W : World) (h1 : B ≤ W.heap.size) h2 => turn_any B q i v X T x d j true (X[i].b ||| 2 ^ j) W h1 h2 hk hd hx hj (bl_or ⟨_, hc⟩ ⟨j, hj⟩) hb' hT (fun _ => hnz)
  obtain ⟨g, cap, rfl, hBg, hcap, hgl⟩ := hR.hv.form (by intro e; subst e; simp at hk)
  have hl := hR.hl
  have hi0 : (0 : Int) ≤ i := by omega
  have c3 := hR.c0
  obtain ⟨c0, c1, c2⟩ := on_cells hR.hv hk
  have c4 := bo_cell (hR.hb _ (List.getElem_mem hk)) hj
  rw [hbit] at c4
  have HD := Lib.hid hd
  rw [hd] at c0
  have hfx := (hR.hf _ (List.getElem_mem hk)).2.1
  have hsub : IntKind.i64.wrap ((x : Int) - (d : Int)) = (j : Int) := by rw [show (x : Int) - d = j by omega]; exact IntWalk.i64_in _ (by omega)
  have hsub2 : (x : Int) - (d : Int) = (j : Int) := by omega
  have j0 : (0 : Int) ≤ j := by omega
  have j8 : (j : Int) < 8 := by omega
  clear hn hd hbit c2 hx hp8 hnz
  go_enter Try.func42, Try.ntmps42
  go_wp2_with (go_at_call 17; refine (at_any B q _ X T x _ hR).mono ?_; rw [HN.out]; rintro e w1 ⟨rfl, rfl⟩)
  go_quiet (fail)
  go_wp2_with fail
  refine (HT.out _ (by simp; omega) (hR.keep0 (by (repeat (first | exact Keep.refl _ _ | exact Keep.refl _ _ | refine Keep.drew ?_ | refine Keep.drewN ?_ _ | refine Keep.alloc ?_ _ | refine Keep.setNew ?_ (by omega) _)); done))).mono ?_
  rintro e w2 ⟨rfl, hrest⟩
  obtain ⟨g1, cc1, hR2, hk2, hg2⟩ := hrest
  have HR2 := Lib.hid hR2
  have HK2 : Hid (Keep (fun y => y = q ∨ (Value.slice (some ⟨g, 0, none⟩) X.length cap).ownBlock = some y) w w2) := Keep.trans (by (repeat (first | exact Keep.refl _ _ | exact Keep.refl _ _ | refine Keep.drew ?_ | refine Keep.drewN ?_ _ | refine Keep.alloc ?_ _ | refine Keep.setNew ?_ (by omega) _)); done) hk2
  clear hR2 hk2
  have hlen : (X.set i ⟨(d : Int), g1, cc1, turnS X[i].b (X[i].b ||| 2 ^ j) X[i].s T, X[i].b ||| 2 ^ j⟩).length = X.length := List.length_set
  have hk' : i < (X.set i ⟨(d : Int), g1, cc1, turnS X[i].b (X[i].b ||| 2 ^ j) X[i].s T, X[i].b ||| 2 ^ j⟩).length := by rw [hlen]; exact hk
  obtain ⟨sN, hsN⟩ : ∃ sN, turnS X[i].b (X[i].b ||| 2 ^ j) X[i].s T = sN := ⟨_, rfl⟩
  have HSN := Lib.hid hsN
  obtain ⟨bN, hbN⟩ : ∃ bN, X[i].b ||| 2 ^ j = bN := ⟨_, rfl⟩
  have HBN := Lib.hid hbN
  rw [hsN] at HR2 hlen hk'
  rw [hbN] at HR2 hlen hk' HP8 hb'
  clear hsN hbN c0 c1 c3 c4
  have e3 := HR2.out.c0
  obtain ⟨e0, e1, e2⟩ := on_cells HR2.out.hv hk'
  simp only [List.getElem_set_self] at e0 e1 e2
  go_wp2_with fail
  refine (many_any B d g1 _ sN bN _ (HR2.out.hb _ (List.mem_set hk _))).mono ?_
  have hp8 := HP8.out
  rintro e w3 ⟨rfl, hk3⟩
  have HR3 := Lib.hid (HR2.out.keep0 hk3)
  have HK3 := Lib.hid (HK2.out.trans (hk3.mono (fun _ _ h => h.elim)))
  clear hk3 e0 e1 e2 e3
  have hs3 := HK3.out.size
  by_cases h5 : bN = 255
  · rw [decide_eq_true h5] at hp8
    have H5 := Lib.hid h5
    clear h5
    go_wp2_with (go_at_call 48; go_loud (refine (dropX_any B q i _ _ (T + 1) _ (by omega) HR3.out hk').mono ?_; rintro e w4 ⟨rfl, v4, hR4, hk4, hf4⟩; have HR4 := Lib.hid hR4; have HK4 := Lib.hid hk4; have HF4 := Lib.hid hf4; clear hR4 hk4 hf4))
    go_ret2
    refine ⟨fun h => absurd (HBN.out.trans H5.out) h, fun _ => ⟨rfl, v4, ?_, HK3.out.trans (HK4.out.mono (fun _ _ h => .inl h)), fun y hy => by have := HF4.out y hy; omega⟩⟩
    have h := HR4.out
    rw [rmv_setX] at h
    exact h
  · rw [decide_eq_false h5] at hp8
    have H5 := Lib.hid h5
    clear h5
    go_wp2
    go_ret2
    refine ⟨fun _ => ⟨rfl, g1, cc1, ?_, HK3.out⟩, fun h => absurd (HBN.out.symm.trans h) H5.out⟩
    rw [HSN.out, HBN.out, HD.out]
    exact HR3.out

end Go.Proofs.Ytdomdjfecnbenaa
