/- Compounds: the reference turns a frame. -/
import Derived.Test.YtdomdjfecnbenaaAA
set_option linter.unusedVariables false
set_option linter.unusedSimpArgs false
namespace Go.Proofs.Ytdomdjfecnbenaa
open Go.RowKit Go.Own

def TurnC (w : World) (B q k : Nat) (v : Value) (X : List On) (T d : Int) (s : Int) (b' : Nat) (e : Ending) (w' : World) : Prop :=
  e = .returned (.tuple #[]) ∧ ∃ g1 c1, RepX w' B q v (X.set k ⟨d, g1, c1, s, b'⟩) (T + 1) ∧ Keep (fun y => y = q ∨ v.ownBlock = some y) w w' ∧ w.heap.size ≤ g1

def sn2 (b' : Nat) (s : Int) : Int := if b' = 0 then 0 else s

theorem neg {a b : Nat} (h : a ≠ b) : b ≠ a := fun e => h e.symm

set_option maxRecDepth 100000 in
set_option maxHeartbeats 4000000 in
theorem turn_one (B q k : Nat) (v : Value) (X : List On) (T : Int) (x d j : Nat) (to : Bool) (b' : Nat) (w : World) (hB : B ≤ w.heap.size) (hR : RepX w B q v X T) (hk : k < X.length) (hd : X[k].f = (d : Int)) (hx : x = d + j) (hj : j < 8)
    (hb : bl b' = (bl X[k].b).set j to) (hb2 : b' < 256) (hT : T < 1000) (h0 : X[k].b = 0) (h1 : b' ≠ 0) :
    Calls Try.prog 47 #[.pointer (some ⟨q, 0, none⟩), .int .i64 k, .int .i64 x, .bool to] w (TurnC w B q k v X T d (T + 1) b') := by
  obtain ⟨g, cap, rfl, hBg, hcap, hgl⟩ := hR.hv.form (by intro e; subst e; simp at hk)
  have hl := hR.hl
  have ht := hR.ht
  have hm := List.getElem_mem hk
  have hfx := hR.hf _ hm
  have hcx := hR.hc _ hm
  have hbx := hR.hb _ hm
  have hnx := hR.nb _ hm
  have hq := hR.nq
  simp [Value.ownBlock] at hnx hq
  have hgx := (hR.glt hm).2
  obtain ⟨c0, c1, c2⟩ := on_cells hR.hv hk
  obtain ⟨y, hy⟩ : ∃ y, X[k] = y := ⟨_, rfl⟩
  have HY := Lib.hid hy
  rw [hy] at hm hfx hcx hbx hnx hgx c0 c1 c2 hb hd h0
  clear hy
  have hT1 : IntKind.i64.wrap (T + 1) = T + 1 := IntWalk.i64_in _ (by omega)
  rw [hd] at c0 hfx
  have hsub : (x : Int) - (d : Int) = (j : Int) := by omega
  have hpz : ((pcN y.b 8 : Nat) : Int) = 0 := by rw [h0]; rfl
  have hpn : (((pcN b' 8 : Nat) : Int) == 0) = false := by
    have := pc_zero ⟨b', hb2⟩
    simp only [eq_iff_iff] at this
    simp; omega
  obtain ⟨pn, hpn'⟩ : ∃ pn, pcN b' 8 = pn := ⟨_, rfl⟩
  have HPN := Lib.hid hpn'
  rw [hpn'] at hpn
  clear hpn'
  have HPZ := Lib.hid hpz
  have HD := Lib.hid hd
  have HX := Lib.hid hx
  have HBB := Lib.hid hb
  have H0 := Lib.hid h0
  have HM := Lib.hid hm
  have HBX := Lib.hid hbx
  have HRR := Lib.hid hR
  have c3 := hR.c0
  have hpl := block_lt hR.hp
  clear hpz hd hx hb h0 hm hbx hR
  go_enter Try.func47, Try.ntmps47
  go_wp2_with (at_builtin; go_loud (refine wpl_app et28 rfl (.tmp 10) (.tmp 18) rfl w.heap.size (.slice (some ⟨w.heap.size, 0, none⟩) 0 0) 0 [] rfl (own_empty_at (heap_alloc_new w _) (Nat.le_refl _)) _ 8 (boE.cs (bl y.b)) rfl (HBX.out.reads.keep (S := fun _ => False) (by (repeat (first | exact Keep.refl _ _ | exact Keep.refl _ _ | refine Keep.drew ?_ | refine Keep.drewN ?_ _ | refine Keep.alloc ?_ _ | refine Keep.setNew ?_ (by omega) _)); done) (fun _ _ _ _ => id)) (boE.cs_one_cell _) (by unfold maxLen; omega) (by omega) (by simp) ?_; intro v1 w1 hown1 hgrow1; obtain ⟨g1, cc1, rfl, hg1, hcc1, hgl1⟩ := own_form hown1 (by omega); have HK1 : Hid (Keep (fun _ => False) w w1) := Keep.grown (by (repeat (first | exact Keep.refl _ _ | exact Keep.refl _ _ | refine Keep.drew ?_ | refine Keep.drewN ?_ _ | refine Keep.alloc ?_ _ | refine Keep.setNew ?_ (by omega) _)); done) hgrow1 (fun x h1 h2 => by simp [Value.ownBlock] at h1; omega); have HO1 : Hid (OwnL boE w1 w.heap.size 4 (.slice (some ⟨g1, 0, none⟩) 8 cc1) (bl y.b)) := (by unfold Hid; rw [Nat.zero_add, List.nil_append] at hown1; exact hown1); clear hown1 hgrow1; have HR1 := Lib.hid (HRR.out.keep0 HK1.out); have hsz1 := HK1.out.size; clear c0 c1 c2 c3; have e3 := HR1.out.c0; have e4 := HR1.out.c1; obtain ⟨e0, e1, e2⟩ := on_cells HR1.out.hv hk; rw [HY.out] at e0 e1 e2; rw [HD.out] at e0; have z1 := HO1.out.frozen j; have z2 := bo_cell HO1.out hj; have fq : w1.frozen? ⟨q, 1, none⟩ = false := frozen_block HR1.out.hp; have n1 : g1 ≠ q := (by omega); have n2 : g1 ≠ g := (by omega); have n3 := neg n1; have n4 := neg n2; have n5 := neg hq))
  have HO2 : Hid (OwnL boE ((w1.setCell ⟨g1, j, none⟩ (.bool to)).setCell ⟨q, 1, none⟩ (.int .i64 (T + 1))) w.heap.size 4 (.slice (some ⟨g1, 0, none⟩) 8 cc1) (bl b')) := by
    have h2 := OwnL.set (j := 0) (x := to) (u := .bool to) HO1.out (i := j) hj (by decide) rfl
    rw [← HBB.out] at h2
    have h3 : OwnL boE (w1.setCell ⟨g1, j, none⟩ (.bool to)) w.heap.size 4 (.slice (some ⟨g1, 0, none⟩) 8 cc1) (bl b') := by simpa [boE] using h2
    exact h3.keep ((Keep.refl (fun x => x = q) _).setCell (p := ⟨q, 1, none⟩) (fun _ => rfl) (.int .i64 (T + 1))) (fun x hx => by simp [Value.ownBlock] at hx; omega)
  have HR2 : Hid (RepX ((w1.setCell ⟨g1, j, none⟩ (.bool to)).setCell ⟨q, 1, none⟩ (.int .i64 (T + 1))) B q (.slice (some ⟨g, 0, none⟩) X.length cap) X (T + 1)) := by
    have h1 := HR1.out.keep (((Keep.refl (fun x => x = g1) w1)).setCell (p := ⟨g1, j, none⟩) (fun _ => rfl) (.bool to)) (fun e => n1 e.symm) (fun x hx => by simp [Value.ownBlock] at hx; omega) (fun x hx => by have := (HRR.out.glt hx).2; omega)
    exact h1.time (by omega)
  have HK2 : Hid (Keep (fun y => y = q ∨ y = g) w ((w1.setCell ⟨g1, j, none⟩ (.bool to)).setCell ⟨q, 1, none⟩ (.int .i64 (T + 1)))) :=
    ((HK1.out.mono (fun _ _ h => h.elim)).setNew hg1 _).setCell (fun _ => .inl rfl) _
  have hN := HR2.out.hb y HM.out
  unfold On.v at hN
  refine (many_any B d y.g y.c y.s y.b _ hN).mono ?_
  rintro e w2 ⟨rfl, hk2⟩
  clear e0 e1 e2 e3 e4 z1 z2 fq hN
  rw [HPZ.out]
  have HR3 := Lib.hid (HR2.out.keep0 hk2)
  have HO3 := Lib.hid (HO2.out.keep hk2 (fun _ _ => id))
  have HK3 := Lib.hid (HK2.out.trans (hk2.mono (fun _ _ h => h.elim)))
  clear hk2
  have e3 := HR3.out.c0
  obtain ⟨e0, e1, e2⟩ := on_cells HR3.out.hv hk
  rw [HY.out] at e0 e1 e2
  rw [HD.out] at e0
  have z1 : w2.frozen? ⟨g, k * 3 + 1, none⟩ = false := HR3.out.hv.frozen _
  have z2 : w2.frozen? ⟨g, k * 3 + 2, none⟩ = false := HR3.out.hv.frozen _
  have hOB : OwnL boE w2 B 4 (.slice (some ⟨g1, 0, none⟩) 8 cc1) (bl b') := HO3.out.base (fun x hx => by have := (HO3.out.lt x hx).1; omega)
  have HR4 : Hid (RepX (w2.setCell ⟨g, k * 3 + 1, none⟩ (.slice (some ⟨g1, 0, none⟩) 8 cc1)) B q (.slice (some ⟨g, 0, none⟩) X.length cap) (X.set k ⟨d, g1, cc1, y.s, b'⟩) (T + 1)) :=
    HR3.out.put (j := 1) hk (by omega) (y := ⟨d, g1, cc1, y.s, b'⟩) (by rw [HY.out]; simp [onE, On.v, HD.out]) hOB ⟨n1, n4⟩ hfx hb2
  have HK4 : Hid (Keep (fun y => y = q ∨ y = g) w (w2.setCell ⟨g, k * 3 + 1, none⟩ (.slice (some ⟨g1, 0, none⟩) 8 cc1))) := HK3.out.setCell (fun _ => .inr rfl) _
  go_wp2
  clear e0 e1 e2 e3 z1 z2 hOB
  generalize w2.setCell ⟨g, k * 3 + 1, none⟩ (.slice (some ⟨g1, 0, none⟩) 8 cc1) = w4 at HR4 HK4 ⊢
  have e3 := HR4.out.c0
  have e4 := HR4.out.c1
  have hlen : (X.set k ⟨d, g1, cc1, y.s, b'⟩).length = X.length := List.length_set
  have HR4' : Hid (RepX w4 B q (.slice (some ⟨g, 0, none⟩) (X.set k ⟨d, g1, cc1, y.s, b'⟩).length cap) (X.set k ⟨d, g1, cc1, y.s, b'⟩) (T + 1)) := by rw [hlen]; exact HR4.out
  have hk' : k < (X.set k ⟨d, g1, cc1, y.s, b'⟩).length := by rw [hlen]; exact hk
  obtain ⟨e0, e1, e2⟩ := on_cells HR4.out.hv hk'
  simp only [List.getElem_set_self] at e0 e1 e2
  have z2 : w4.frozen? ⟨g, k * 3 + 2, none⟩ = false := HR4.out.hv.frozen _
  have HR5 : Hid (RepX ((w4.setCell ⟨g, k * 3 + 2, none⟩ (.int .i64 (T + 1))).drew) B q (.slice (some ⟨g, 0, none⟩) X.length cap) (X.set k ⟨d, g1, cc1, T + 1, b'⟩) (T + 1)) := by
    have h := HR4'.out.put (j := 2) hk' (u := .int .i64 (T + 1)) (by omega) (y := ⟨d, g1, cc1, T + 1, b'⟩) (by simp [onE, On.v]) (HR4.out.hb ⟨d, g1, cc1, y.s, b'⟩ (List.mem_set hk _)) ⟨n1, n4⟩ hfx hb2
    rw [List.set_set, hlen] at h
    exact h.keep0 (Keep.drew (Keep.refl _ _))
  have HK5 : Hid (Keep (fun y => y = q ∨ y = g) w ((w4.setCell ⟨g, k * 3 + 2, none⟩ (.int .i64 (T + 1))).drew)) := (HK4.out.setCell (fun _ => .inr rfl) _).drew
  go_region
  all_goals
    clear e0 e1 e2 e3 e4 z2
    generalize (w4.setCell ⟨g, k * 3 + 2, none⟩ (.int .i64 (T + 1))).drew = w5 at HR5 HK5 ⊢
    have e3 := HR5.out.c0
    have hlen5 : (X.set k ⟨d, g1, cc1, T + 1, b'⟩).length = X.length := List.length_set
    have hk5 : k < (X.set k ⟨d, g1, cc1, T + 1, b'⟩).length := by rw [hlen5]; exact hk
    obtain ⟨e0, e1, e2⟩ := on_cells HR5.out.hv hk5
    simp only [List.getElem_set_self] at e0 e1 e2
    go_wp2_with fail
    refine (many_any B d g1 cc1 (T + 1) b' _ (HR5.out.hb _ (List.mem_set hk _))).mono ?_
    rw [HPN.out]
    rintro e w6 ⟨rfl, hk6⟩
    go_wp2
    go_end0
    exact ⟨rfl, g1, cc1, HR5.out.keep0 hk6, (HK5.out.trans (hk6.mono (fun _ _ h => h.elim))).mono (fun z _ h => by rcases h with rfl | rfl; exact .inl rfl; exact .inr rfl), hg1⟩

set_option maxRecDepth 100000 in
set_option maxHeartbeats 4000000 in
theorem turn_two (B q k : Nat) (v : Value) (X : List On) (T : Int) (x d j : Nat) (to : Bool) (b' : Nat) (w : World) (hB : B ≤ w.heap.size) (hR : RepX w B q v X T) (hk : k < X.length) (hd : X[k].f = (d : Int)) (hx : x = d + j) (hj : j < 8)
    (hb : bl b' = (bl X[k].b).set j to) (hb2 : b' < 256) (hT : T < 1000) (h0 : X[k].b ≠ 0) :
    Calls Try.prog 47 #[.pointer (some ⟨q, 0, none⟩), .int .i64 k, .int .i64 x, .bool to] w (TurnC w B q k v X T d (sn2 b' X[k].s) b') := by
  obtain ⟨g, cap, rfl, hBg, hcap, hgl⟩ := hR.hv.form (by intro e; subst e; simp at hk)
  have hl := hR.hl
  have ht := hR.ht
  have hm := List.getElem_mem hk
  have hfx := hR.hf _ hm
  have hcx := hR.hc _ hm
  have hbx := hR.hb _ hm
  have hnx := hR.nb _ hm
  have hq := hR.nq
  simp [Value.ownBlock] at hnx hq
  have hgx := (hR.glt hm).2
  obtain ⟨c0, c1, c2⟩ := on_cells hR.hv hk
  obtain ⟨y, hy⟩ : ∃ y, X[k] = y := ⟨_, rfl⟩
  have HY := Lib.hid hy
  rw [hy] at hm hfx hcx hbx hnx hgx c0 c1 c2 hb hd h0 ⊢
  clear hy
  have hT1 : IntKind.i64.wrap (T + 1) = T + 1 := IntWalk.i64_in _ (by omega)
  rw [hd] at c0 hfx
  have hsub : (x : Int) - (d : Int) = (j : Int) := by omega
  have hpz : (((pcN y.b 8 : Nat) : Int) == 0) = false := by
    have := pc_zero ⟨y.b, hcx⟩
    simp only [eq_iff_iff] at this
    simp; omega
  have hpn : (((pcN b' 8 : Nat) : Int) == 0) = decide (b' = 0) := by
    have := pc_zero ⟨b', hb2⟩
    simp only [eq_iff_iff] at this
    rw [Bool.eq_iff_iff]; simp; omega
  obtain ⟨pz, hpz'⟩ : ∃ pz, pcN y.b 8 = pz := ⟨_, rfl⟩
  have HPZ := Lib.hid hpz'
  rw [hpz'] at hpz
  clear hpz'
  obtain ⟨pn, hpn'⟩ : ∃ pn, pcN b' 8 = pn := ⟨_, rfl⟩
  have HPN := Lib.hid hpn'
  rw [hpn'] at hpn
  clear hpn'
  have HD := Lib.hid hd
  have HX := Lib.hid hx
  have HBB := Lib.hid hb
  have H0 := Lib.hid h0
  have HM := Lib.hid hm
  have HBX := Lib.hid hbx
  have HRR := Lib.hid hR
  have c3 := hR.c0
  have hpl := block_lt hR.hp
  clear hd hx hb h0 hm hbx hR
  go_enter Try.func47, Try.ntmps47
  go_wp2_with (at_builtin; go_loud (refine wpl_app et28 rfl (.tmp 10) (.tmp 18) rfl w.heap.size (.slice (some ⟨w.heap.size, 0, none⟩) 0 0) 0 [] rfl (own_empty_at (heap_alloc_new w _) (Nat.le_refl _)) _ 8 (boE.cs (bl y.b)) rfl (HBX.out.reads.keep (S := fun _ => False) (by (repeat (first | exact Keep.refl _ _ | exact Keep.refl _ _ | refine Keep.drew ?_ | refine Keep.drewN ?_ _ | refine Keep.alloc ?_ _ | refine Keep.setNew ?_ (by omega) _)); done) (fun _ _ _ _ => id)) (boE.cs_one_cell _) (by unfold maxLen; omega) (by omega) (by simp) ?_; intro v1 w1 hown1 hgrow1; obtain ⟨g1, cc1, rfl, hg1, hcc1, hgl1⟩ := own_form hown1 (by omega); have HK1 : Hid (Keep (fun _ => False) w w1) := Keep.grown (by (repeat (first | exact Keep.refl _ _ | exact Keep.refl _ _ | refine Keep.drew ?_ | refine Keep.drewN ?_ _ | refine Keep.alloc ?_ _ | refine Keep.setNew ?_ (by omega) _)); done) hgrow1 (fun x h1 h2 => by simp [Value.ownBlock] at h1; omega); have HO1 : Hid (OwnL boE w1 w.heap.size 4 (.slice (some ⟨g1, 0, none⟩) 8 cc1) (bl y.b)) := (by unfold Hid; rw [Nat.zero_add, List.nil_append] at hown1; exact hown1); clear hown1 hgrow1; have HR1 := Lib.hid (HRR.out.keep0 HK1.out); have hsz1 := HK1.out.size; clear c0 c1 c2 c3; have e3 := HR1.out.c0; have e4 := HR1.out.c1; obtain ⟨e0, e1, e2⟩ := on_cells HR1.out.hv hk; rw [HY.out] at e0 e1 e2; rw [HD.out] at e0; have z1 := HO1.out.frozen j; have z2 := bo_cell HO1.out hj; have fq : w1.frozen? ⟨q, 1, none⟩ = false := frozen_block HR1.out.hp; have n1 : g1 ≠ q := (by omega); have n2 : g1 ≠ g := (by omega); have n3 := neg n1; have n4 := neg n2; have n5 := neg hq))
  have HO2 : Hid (OwnL boE ((w1.setCell ⟨g1, j, none⟩ (.bool to)).setCell ⟨q, 1, none⟩ (.int .i64 (T + 1))) w.heap.size 4 (.slice (some ⟨g1, 0, none⟩) 8 cc1) (bl b')) := by
    have h2 := OwnL.set (j := 0) (x := to) (u := .bool to) HO1.out (i := j) hj (by decide) rfl
    rw [← HBB.out] at h2
    have h3 : OwnL boE (w1.setCell ⟨g1, j, none⟩ (.bool to)) w.heap.size 4 (.slice (some ⟨g1, 0, none⟩) 8 cc1) (bl b') := by simpa [boE] using h2
    exact h3.keep ((Keep.refl (fun x => x = q) _).setCell (p := ⟨q, 1, none⟩) (fun _ => rfl) (.int .i64 (T + 1))) (fun x hx => by simp [Value.ownBlock] at hx; omega)
  have HR2 : Hid (RepX ((w1.setCell ⟨g1, j, none⟩ (.bool to)).setCell ⟨q, 1, none⟩ (.int .i64 (T + 1))) B q (.slice (some ⟨g, 0, none⟩) X.length cap) X (T + 1)) := by
    have h1 := HR1.out.keep (((Keep.refl (fun x => x = g1) w1)).setCell (p := ⟨g1, j, none⟩) (fun _ => rfl) (.bool to)) (fun e => n1 e.symm) (fun x hx => by simp [Value.ownBlock] at hx; omega) (fun x hx => by have := (HRR.out.glt hx).2; omega)
    exact h1.time (by omega)
  have HK2 : Hid (Keep (fun y => y = q ∨ y = g) w ((w1.setCell ⟨g1, j, none⟩ (.bool to)).setCell ⟨q, 1, none⟩ (.int .i64 (T + 1)))) :=
    ((HK1.out.mono (fun _ _ h => h.elim)).setNew hg1 _).setCell (fun _ => .inl rfl) _
  have hN := HR2.out.hb y HM.out
  unfold On.v at hN
  refine (many_any B d y.g y.c y.s y.b _ hN).mono ?_
  rintro e w2 ⟨rfl, hk2⟩
  clear e0 e1 e2 e3 e4 z1 z2 fq hN
  rw [HPZ.out]
  have HR3 := Lib.hid (HR2.out.keep0 hk2)
  have HO3 := Lib.hid (HO2.out.keep hk2 (fun _ _ => id))
  have HK3 := Lib.hid (HK2.out.trans (hk2.mono (fun _ _ h => h.elim)))
  clear hk2
  have e3 := HR3.out.c0
  obtain ⟨e0, e1, e2⟩ := on_cells HR3.out.hv hk
  rw [HY.out] at e0 e1 e2
  rw [HD.out] at e0
  have z1 : w2.frozen? ⟨g, k * 3 + 1, none⟩ = false := HR3.out.hv.frozen _
  have z2 : w2.frozen? ⟨g, k * 3 + 2, none⟩ = false := HR3.out.hv.frozen _
  have hOB : OwnL boE w2 B 4 (.slice (some ⟨g1, 0, none⟩) 8 cc1) (bl b') := HO3.out.base (fun x hx => by have := (HO3.out.lt x hx).1; omega)
  have HR4 : Hid (RepX (w2.setCell ⟨g, k * 3 + 1, none⟩ (.slice (some ⟨g1, 0, none⟩) 8 cc1)) B q (.slice (some ⟨g, 0, none⟩) X.length cap) (X.set k ⟨d, g1, cc1, y.s, b'⟩) (T + 1)) :=
    HR3.out.put (j := 1) hk (by omega) (y := ⟨d, g1, cc1, y.s, b'⟩) (by rw [HY.out]; simp [onE, On.v, HD.out]) hOB ⟨n1, n4⟩ hfx hb2
  have HK4 : Hid (Keep (fun y => y = q ∨ y = g) w (w2.setCell ⟨g, k * 3 + 1, none⟩ (.slice (some ⟨g1, 0, none⟩) 8 cc1))) := HK3.out.setCell (fun _ => .inr rfl) _
  go_wp2_with fail
  clear e0 e1 e2 e3 z1 z2 hOB
  generalize w2.setCell ⟨g, k * 3 + 1, none⟩ (.slice (some ⟨g1, 0, none⟩) 8 cc1) = w4 at HR4 HK4 ⊢
  have e3 := HR4.out.c0
  have e4 := HR4.out.c1
  have hlen : (X.set k ⟨d, g1, cc1, y.s, b'⟩).length = X.length := List.length_set
  have HR4' : Hid (RepX w4 B q (.slice (some ⟨g, 0, none⟩) (X.set k ⟨d, g1, cc1, y.s, b'⟩).length cap) (X.set k ⟨d, g1, cc1, y.s, b'⟩) (T + 1)) := by rw [hlen]; exact HR4.out
  have hk' : k < (X.set k ⟨d, g1, cc1, y.s, b'⟩).length := by rw [hlen]; exact hk
  obtain ⟨e0, e1, e2⟩ := on_cells HR4.out.hv hk'
  simp only [List.getElem_set_self] at e0 e1 e2
  refine (many_any B d g1 cc1 y.s b' _ (HR4.out.hb _ (List.mem_set hk _))).mono ?_
  rw [HPN.out]
  rintro e w6 ⟨rfl, hk6⟩
  have HR6 := Lib.hid (HR4'.out.keep0 hk6)
  have HK6 := Lib.hid (HK4.out.trans (hk6.mono (fun _ _ h => h.elim)))
  clear hk6 e0 e1 e2 e3 e4
  by_cases h1 : b' = 0
  · rw [decide_eq_true h1] at hpn
    have H1 := Lib.hid h1
    clear h1
    have e3 := HR6.out.c0
    obtain ⟨e0, e1, e2⟩ := on_cells HR6.out.hv hk'
    simp only [List.getElem_set_self] at e0 e1 e2
    have z2 : w6.frozen? ⟨g, k * 3 + 2, none⟩ = false := HR6.out.hv.frozen _
    rw [hlen] at e3
    have HR7 : Hid (RepX (w6.setCell ⟨g, k * 3 + 2, none⟩ (.int .i64 0)) B q (.slice (some ⟨g, 0, none⟩) X.length cap) (X.set k ⟨d, g1, cc1, 0, b'⟩) (T + 1)) := by
      have h := HR6.out.put (j := 2) hk' (u := .int .i64 0) (by omega) (y := ⟨d, g1, cc1, 0, b'⟩) (by simp [onE, On.v]) (HR6.out.hb ⟨d, g1, cc1, y.s, b'⟩ (List.mem_set hk _)) ⟨n1, n4⟩ hfx hb2
      rw [List.set_set, hlen] at h
      exact h
    go_wp2
    go_end0
    exact ⟨rfl, g1, cc1, by unfold sn2; rw [if_pos H1.out]; exact HR7.out, (HK6.out.setCell (fun _ => .inr rfl) _).mono (fun z _ h => by rcases h with rfl | rfl; exact .inl rfl; exact .inr rfl), hg1⟩
  · rw [decide_eq_false h1] at hpn
    have H1 := Lib.hid h1
    clear h1
    go_wp2
    go_end0
    exact ⟨rfl, g1, cc1, by unfold sn2; rw [if_neg H1.out]; have h := HR6.out; rw [hlen] at h; exact h, HK6.out.mono (fun z _ h => by rcases h with rfl | rfl; exact .inl rfl; exact .inr rfl), hg1⟩

end Go.Proofs.Ytdomdjfecnbenaa
