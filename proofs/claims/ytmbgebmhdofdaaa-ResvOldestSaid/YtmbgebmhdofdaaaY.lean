/- Reservations: the reference turns a page. -/
import Derived.Test.YtmbgebmhdofdaaaW
set_option linter.unusedVariables false
set_option linter.unusedSimpArgs false
namespace Go.Proofs.Ytmbgebmhdofdaaa
open Go.RowKit Go.Own

theorem RepX.put {w : World} {B q k g cap j : Nat} {X : List Ox} {T : Int} (h : RepX w B q (.slice (some ⟨g, 0, none⟩) X.length cap) X T) (hk : k < X.length) {y : Ox} {u : Value} (hj : j < 5) (hy : oxE.c y = (oxE.c X[k]).set j u)
    (hb : OwnL boE w B 4 y.v (bl y.b)) (hb2 : y.g ≠ q ∧ g ≠ y.g) (hf : 0 ≤ y.s ∧ 0 ≤ y.p ∧ y.p ≤ 4088 ∧ y.p % 8 = 0 ∧ 0 ≤ y.f ∧ y.f ≤ 1016 ∧ y.f % 8 = 0) (hc : y.b < 256) :
    RepX (w.setCell ⟨g, k * 5 + j, none⟩ u) B q (.slice (some ⟨g, 0, none⟩) X.length cap) (X.set k y) T := by
  have KP := (Keep.refl (fun x => x = g) w).setCell (p := ⟨g, k * 5 + j, none⟩) (fun _ => rfl) u
  have hne := h.nq
  simp [Value.ownBlock] at hne
  have hs := OwnL.set (j := j) (x := y) (u := u) h.hv hk hj hy
  have hm : ∀ x, x ∈ X.set k y → x ∈ X ∨ x = y := fun x hx => List.mem_or_eq_of_mem_set hx
  refine ⟨?_, hs, ?_, h.nq, ?_, by simpa using h.hl, ?_, ?_, h.ht⟩
  · rw [heap_setCell_ne (by simp; omega)]; exact h.hp
  · intro x hx
    rcases hm x hx with hx | rfl
    · exact (h.hb x hx).keep KP (fun y hy e => by simp [Ox.v, Value.ownBlock] at hy; have := (h.nb x hx).2; simp [Value.ownBlock] at this; omega)
    · exact hb.keep KP (fun y hy e => by simp [Ox.v, Value.ownBlock] at hy; omega)
  · intro x hx
    rcases hm x hx with hx | rfl
    · exact h.nb x hx
    · exact ⟨hb2.1, by simp [Value.ownBlock]; exact hb2.2⟩
  · intro x hx
    rcases hm x hx with hx | rfl
    · exact h.hf x hx
    · exact hf
  · intro x hx
    rcases hm x hx with hx | rfl
    · exact h.hc x hx
    · exact hc

def TurnC (w : World) (B q k : Nat) (v : Value) (X : List Ox) (T : Int) (x : Ox) (b' : Nat) (e : Ending) (w' : World) : Prop :=
  e = .returned (.tuple #[]) ∧ ∃ g1 c1, RepX w' B q v (X.set k ⟨x.s, x.p, x.f, g1, c1, T + 1, b'⟩) (T + 1) ∧ Keep (fun y => y = q ∨ v.ownBlock = some y) w w' ∧ w.heap.size ≤ g1

theorem neg {a b : Nat} (h : a ≠ b) : b ≠ a := fun e => h e.symm

set_option maxRecDepth 100000 in
set_option maxHeartbeats 4000000 in
theorem turn_any (B q k : Nat) (v : Value) (X : List Ox) (T y : Int) (x : Ox) (j : Nat) (to : Bool) (b' : Nat) (w : World) (hB : B ≤ w.heap.size) (hR : RepX w B q v X T) (hk : k < X.length) (he : X[k] = x) (hx : y = x.p + j) (hj : j < 8)
    (hb : bl b' = (bl x.b).set j to) (hb2 : b' < 256) (hT : T < 1000) :
    Calls Try.prog 45 #[.pointer (some ⟨q, 0, none⟩), .int .i64 k, .int .i64 y, .bool to] w (TurnC w B q k v X T x b') := by
  obtain ⟨g, cap, rfl, hBg, hcap, hgl⟩ := hR.hv.form (by intro e; subst e; simp at hk)
  have hl := hR.hl
  have ht := hR.ht
  have hm := List.getElem_mem hk
  have hfx := hR.hf _ hm
  have hcx := hR.hc _ hm
  have hbx := hR.hb _ hm
  have hnx := hR.nb _ hm
  have hq := hR.nq
  simp [Value.ownBlock] at hnx hq
  have hgx := (hR.glt hm).2
  obtain ⟨c0, c1, c2, c3, c4⟩ := ox_cells hR.hv hk
  have HE := Lib.hid he
  rw [he] at hm hfx hcx hbx hnx hgx c0 c1 c2 c3 c4
  clear he
  obtain ⟨xs, xp, xf, xg, xc, xt, xb⟩ := x
  simp only at hm hfx hcx hbx hnx hgx c0 c1 c2 c3 c4 hx hb
  have hT1 : IntKind.i64.wrap (T + 1) = T + 1 := IntWalk.i64_in _ (by omega)
  have hsub : IntKind.i64.wrap (y - xp) = (j : Int) := by rw [hx]; rw [show xp + (j : Int) - xp = (j : Int) by omega]; exact IntWalk.i64_in _ (by omega)
  have hj8 : (j : Int) < 8 := by omega
  have HX := Lib.hid hx
  have HBB := Lib.hid hb
  have HM := Lib.hid hm
  have HFX := Lib.hid hfx
  have HBX := Lib.hid hbx
  have HRR := Lib.hid hR
  have c5 := hR.c0
  have hpl := block_lt hR.hp
  clear hx hb hm hbx hR hfx
  go_enter Try.func45, Try.ntmps45
  go_wp2_with (at_builtin; go_loud (refine wpl_app et38 rfl (.tmp 9) (.tmp 17) rfl w.heap.size (.slice (some ⟨w.heap.size, 0, none⟩) 0 0) 0 [] rfl (own_empty_at (heap_alloc_new w _) (Nat.le_refl _)) _ 8 (boE.cs (bl xb)) rfl (HBX.out.reads.keep (S := fun _ => False) (by (repeat (first | exact Keep.refl _ _ | exact Keep.refl _ _ | refine Keep.drew ?_ | refine Keep.drewN ?_ _ | refine Keep.alloc ?_ _ | refine Keep.setNew ?_ (by omega) _)); done) (fun _ _ _ _ => id)) (boE.cs_one_cell _) (by unfold maxLen; omega) (by omega) (by simp) ?_; intro v1 w1 hown1 hgrow1; obtain ⟨g1, cc1, rfl, hg1, hcc1, hgl1⟩ := own_form hown1 (by omega); have HK1 : Hid (Keep (fun _ => False) w w1) := Keep.grown (by (repeat (first | exact Keep.refl _ _ | exact Keep.refl _ _ | refine Keep.drew ?_ | refine Keep.drewN ?_ _ | refine Keep.alloc ?_ _ | refine Keep.setNew ?_ (by omega) _)); done) hgrow1 (fun x h1 h2 => by simp [Value.ownBlock] at h1; omega); have HO1 : Hid (OwnL boE w1 w.heap.size 4 (.slice (some ⟨g1, 0, none⟩) 8 cc1) (bl xb)) := (by unfold Hid; rw [Nat.zero_add, List.nil_append] at hown1; exact hown1); clear hown1 hgrow1; have HR1 := Lib.hid (HRR.out.keep0 HK1.out); have hsz1 := HK1.out.size; clear c0 c1 c2 c3 c4 c5; have e5 := HR1.out.c0; have e6 := HR1.out.c1; obtain ⟨e0, e1, e2, e3, e4⟩ := ox_cells HR1.out.hv hk; rw [HE.out] at e0 e1 e2 e3 e4; have z1 := HO1.out.frozen j; have z2 := bo_cell HO1.out hj; have fq : w1.frozen? ⟨q, 1, none⟩ = false := frozen_block HR1.out.hp; have n1 : g1 ≠ q := (by omega); have n2 : g1 ≠ g := (by omega); have n3 := neg n1; have n4 := neg n2; have n5 := neg hq; have z3 : w1.frozen? ⟨g, k * 5 + 3, none⟩ = false := HR1.out.hv.frozen _))
  clear e0 e1 e2 e3 e4 e5 e6 z1 z2 z3 fq
  have HO2 : Hid (OwnL boE ((w1.setCell ⟨g1, j, none⟩ (.bool to)).setCell ⟨q, 1, none⟩ (.int .i64 (T + 1))) w.heap.size 4 (.slice (some ⟨g1, 0, none⟩) 8 cc1) (bl b')) := by
    have h2 := OwnL.set (j := 0) (x := to) (u := .bool to) HO1.out (i := j) hj (by decide) rfl
    rw [← HBB.out] at h2
    have h3 : OwnL boE (w1.setCell ⟨g1, j, none⟩ (.bool to)) w.heap.size 4 (.slice (some ⟨g1, 0, none⟩) 8 cc1) (bl b') := by simpa [boE] using h2
    exact h3.keep ((Keep.refl (fun x => x = q) _).setCell (p := ⟨q, 1, none⟩) (fun _ => rfl) (.int .i64 (T + 1))) (fun x hx => by simp [Value.ownBlock] at hx; omega)
  have HR2 : Hid (RepX ((w1.setCell ⟨g1, j, none⟩ (.bool to)).setCell ⟨q, 1, none⟩ (.int .i64 (T + 1))) B q (.slice (some ⟨g, 0, none⟩) X.length cap) X (T + 1)) := by
    have h1 := HR1.out.keep (((Keep.refl (fun x => x = g1) w1)).setCell (p := ⟨g1, j, none⟩) (fun _ => rfl) (.bool to)) (fun e => n1 e.symm) (fun x hx => by simp [Value.ownBlock] at hx; omega) (fun x hx => by have := (HRR.out.glt hx).2; omega)
    exact h1.time (by omega)
  have HK2 : Hid (Keep (fun y => y = q ∨ y = g) w ((w1.setCell ⟨g1, j, none⟩ (.bool to)).setCell ⟨q, 1, none⟩ (.int .i64 (T + 1)))) :=
    ((HK1.out.mono (fun _ _ h => h.elim)).setNew hg1 _).setCell (fun _ => .inl rfl) _
  generalize (w1.setCell ⟨g1, j, none⟩ (.bool to)).setCell ⟨q, 1, none⟩ (.int .i64 (T + 1)) = w2 at HO2 HR2 HK2 ⊢
  have hOB : OwnL boE w2 B 4 (.slice (some ⟨g1, 0, none⟩) 8 cc1) (bl b') := HO2.out.base (fun x hx => by have := (HO2.out.lt x hx).1; omega)
  have HR4 : Hid (RepX (w2.setCell ⟨g, k * 5 + 3, none⟩ (.slice (some ⟨g1, 0, none⟩) 8 cc1)) B q (.slice (some ⟨g, 0, none⟩) X.length cap) (X.set k ⟨xs, xp, xf, g1, cc1, xt, b'⟩) (T + 1)) :=
    HR2.out.put (j := 3) hk (by omega) (y := ⟨xs, xp, xf, g1, cc1, xt, b'⟩) (by rw [HE.out]; simp [oxE, Ox.v]) hOB ⟨n1, n4⟩ HFX.out hb2
  have HK4 : Hid (Keep (fun y => y = q ∨ y = g) w (w2.setCell ⟨g, k * 5 + 3, none⟩ (.slice (some ⟨g1, 0, none⟩) 8 cc1))) := HK2.out.setCell (fun _ => .inr rfl) _
  generalize w2.setCell ⟨g, k * 5 + 3, none⟩ (.slice (some ⟨g1, 0, none⟩) 8 cc1) = w4 at HR4 HK4 ⊢
  have e5 := HR4.out.c0
  have e6 := HR4.out.c1
  have hlen : (X.set k ⟨xs, xp, xf, g1, cc1, xt, b'⟩).length = X.length := List.length_set
  have HR4' : Hid (RepX w4 B q (.slice (some ⟨g, 0, none⟩) (X.set k ⟨xs, xp, xf, g1, cc1, xt, b'⟩).length cap) (X.set k ⟨xs, xp, xf, g1, cc1, xt, b'⟩) (T + 1)) := by rw [hlen]; exact HR4.out
  have hk' : k < (X.set k ⟨xs, xp, xf, g1, cc1, xt, b'⟩).length := by rw [hlen]; exact hk
  obtain ⟨e0, e1, e2, e3, e4⟩ := ox_cells HR4.out.hv hk'
  simp only [List.getElem_set_self] at e0 e1 e2 e3 e4
  have z2 : w4.frozen? ⟨g, k * 5 + 4, none⟩ = false := HR4.out.hv.frozen _
  have HR5 : Hid (RepX ((w4.setCell ⟨g, k * 5 + 4, none⟩ (.int .i64 (T + 1))).drew) B q (.slice (some ⟨g, 0, none⟩) X.length cap) (X.set k ⟨xs, xp, xf, g1, cc1, T + 1, b'⟩) (T + 1)) := by
    have h := HR4'.out.put (j := 4) hk' (u := .int .i64 (T + 1)) (by omega) (y := ⟨xs, xp, xf, g1, cc1, T + 1, b'⟩) (by simp [oxE, Ox.v]) (HR4.out.hb ⟨xs, xp, xf, g1, cc1, xt, b'⟩ (List.mem_set hk _)) ⟨n1, n4⟩ HFX.out hb2
    rw [List.set_set, hlen] at h
    exact h.keep0 (Keep.drew (Keep.refl _ _))
  have HK5 : Hid (Keep (fun y => y = q ∨ y = g) w ((w4.setCell ⟨g, k * 5 + 4, none⟩ (.int .i64 (T + 1))).drew)) := (HK4.out.setCell (fun _ => .inr rfl) _).drew
  have k0 : (0 : Int) ≤ k := by omega
  go_region
  all_goals
    go_wp2
    go_end0
    exact ⟨rfl, g1, cc1, HR5.out, HK5.out.mono (fun z _ h => by rcases h with rfl | rfl; exact .inl rfl; exact .inr rfl), hg1⟩

end Go.Proofs.Ytmbgebmhdofdaaa
