/- Reservations: the reference makes one. -/
import Derived.Test.YtmbgebmhdofdaaaV
import Derived.Deep.OwnRows
set_option linter.unusedVariables false
set_option linter.unusedSimpArgs false
namespace Go.Proofs.Ytmbgebmhdofdaaa
open Go.RowKit Go.Own

theorem make38 (w : World) : (Instr.makeSlice 38 (.int .i64 8) (.int .i64 8)).run Try.prog w = .ok (.slice (some ⟨w.heap.size, 0, none⟩) 8 8) (w.alloc (.cells (boE.cs (bl 0)).toArray 4)) := by
  have h := run_make_row' (P := Try.prog) (w := w) 38 4 (.bool false) 1 Try.underlying38 info4 rfl .i64 .i64 8 (by omega) (by omega)
  have e : madeCells #[Value.bool false] 8 = (boE.cs (bl 0)).toArray := by kernel_rfl
  rw [e] at h
  exact h

set_option maxHeartbeats 1000000 in
theorem makeX_range (q : Nat) (s y f : Int) (h : ¬ mkOk s y f) (w : World) : Calls Try.prog 36 #[.pointer (some ⟨q, 0, none⟩), .int .i64 s, .int .i64 y, .int .i64 f] w fun e w' => e = .returned (.int .i64 3) ∧ w = w' := by
  unfold mkOk at h
  rcases (show s < 0 ∨ (0 ≤ s ∧ y < 0) ∨ (0 ≤ s ∧ 0 ≤ y ∧ 4096 ≤ y) ∨ (0 ≤ s ∧ 0 ≤ y ∧ y < 4096 ∧ f < 0) ∨ (0 ≤ s ∧ 0 ≤ y ∧ y < 4096 ∧ 0 ≤ f ∧ 1016 < f) by omega) with h1 | ⟨h1, h2⟩ | ⟨h1, h2, h3⟩ | ⟨h1, h2, h3, h4⟩ | ⟨h1, h2, h3, h4, h5⟩
  all_goals
    clear h
    go_enter Try.func36, Try.ntmps36
    go_wp2
    go_ret
    exact ⟨rfl, rfl⟩
set_option maxHeartbeats 1000000 in
theorem makeX_align (q : Nat) (s y f : Int) (h : mkOk s y f) (h8 : y % 8 ≠ 0 ∨ f % 8 ≠ 0) (w : World) : Calls Try.prog 36 #[.pointer (some ⟨q, 0, none⟩), .int .i64 s, .int .i64 y, .int .i64 f] w fun e w' => e = .returned (.int .i64 4) ∧ w = w' := by
  obtain ⟨h1, h2, h3, h4, h5⟩ := h
  rcases (show y % 8 ≠ 0 ∨ (y % 8 = 0 ∧ f % 8 ≠ 0) by omega) with h6 | ⟨h6, h7⟩
  · have e1 : ((y % 8) != 0) = true := by simpa using h6
    clear h8 h6
    go_enter Try.func36, Try.ntmps36
    go_wp2
    go_ret
    exact ⟨rfl, rfl⟩
  · have e1 : ((y % 8) != 0) = false := by simpa using h6
    have e2 : ((f % 8) != 0) = true := by simpa using h7
    clear h8 h6 h7
    go_enter Try.func36, Try.ntmps36
    go_wp2
    go_ret
    exact ⟨rfl, rfl⟩
set_option maxHeartbeats 1000000 in
theorem makeX_exist (B q : Nat) (v : Value) (X : List Ox) (T : Int) (s y f : Int) (h : mkOk s y f) (h8 : y % 8 = 0 ∧ f % 8 = 0) (hn : 0 ≤ atX X s y ∨ 0 ≤ ofX X f) (w : World) (hR : RepX w B q v X T) :
    Calls Try.prog 36 #[.pointer (some ⟨q, 0, none⟩), .int .i64 s, .int .i64 y, .int .i64 f] w fun e w' => e = .returned (.int .i64 7) ∧ w = w' := by
  obtain ⟨h1, h2, h3, h4, h5⟩ := h
  have e1 : ((y % 8) != 0) = false := by simpa using h8.1
  have e2 : ((f % 8) != 0) = false := by simpa using h8.2
  have HA := Lib.hid (at_any B q v X T s y w hR)
  have HF := Lib.hid (of_at B q v X T f w hR)
  obtain ⟨i, hi⟩ : ∃ i, atX X s y = i := ⟨_, rfl⟩
  obtain ⟨j, hj⟩ : ∃ j, ofX X f = j := ⟨_, rfl⟩
  rw [hi] at HA hn
  rw [hj] at HF hn
  clear h8 hi hj
  by_cases hi0 : 0 ≤ i
  · clear hn
    go_enter Try.func36, Try.ntmps36
    go_wp2_with (first | (go_at_call 22; refine HA.out.mono ?_; rintro e w1 ⟨rfl, rfl⟩))
    go_ret
    exact ⟨rfl, rfl⟩
  · have hj0 : 0 ≤ j := by omega
    clear hn
    go_enter Try.func36, Try.ntmps36
    go_wp2_with (first | (go_at_call 22; refine HA.out.mono ?_; rintro e w1 ⟨rfl, rfl⟩) | (go_at_call 44; refine HF.out.mono ?_; rintro e w1 ⟨rfl, rfl⟩))
    go_ret
    exact ⟨rfl, rfl⟩

theorem RepX.time {w : World} {B q : Nat} {v : Value} {X : List Ox} {T T' : Int} (h : RepX w B q v X T) (hT : 0 ≤ T' ∧ T' ≤ 100000) : RepX (w.setCell ⟨q, 1, none⟩ (.int .i64 T')) B q v X T' := by
  have KP := (Keep.refl (fun x => x = q) w).setCell (p := ⟨q, 1, none⟩) (fun _ => rfl) (.int .i64 T')
  refine ⟨?_, h.hv.keep KP (fun x e hx => h.nq (hx ▸ e)), fun x m => (h.hb x m).keep KP (fun y hy => by simp [Ox.v, Value.ownBlock] at hy; have := (h.nb x m).1; omega), h.nq, h.nb, h.hl, h.hf, h.hc, hT⟩
  rw [heap_setCell_eq h.hp]; simp

theorem heap_two (w : World) (a b : Obj) : ((w.alloc a).alloc b).drew.heap[w.heap.size + 1]? = some b := by
  have h := heap_alloc_new (w.alloc a) b
  rw [World.size_alloc] at h
  exact h
theorem heap_one (w : World) (a b : Obj) : ((w.alloc a).alloc b).drew.heap[w.heap.size]? = some a := by
  show ((w.alloc a).alloc b).heap[w.heap.size]? = some a
  rw [heap_alloc_at, World.size_alloc, if_neg (by omega)]
  exact heap_alloc_new w a
theorem cells5 {w : World} {b e : Nat} {x0 x1 x2 x3 x4 : Value} {z : Nat × Nat} (hb : w.heap[b]? = some (.cells #[x0, x1, x2, x3, x4] e z)) :
    w.cell? ⟨b, 0, none⟩ = some x0 ∧ w.cell? ⟨b, 1, none⟩ = some x1 ∧ w.cell? ⟨b, 2, none⟩ = some x2 ∧ w.cell? ⟨b, 3, none⟩ = some x3 ∧ w.cell? ⟨b, 4, none⟩ = some x4 := by
  simp [cell_block hb]

theorem makeX_close {w w1 w2 w3 : World} {B q N g1 : Nat} {v v3 : Value} {X O : List Ox} {T s y f : Int} (h : mkOk s y f) (h8 : y % 8 = 0 ∧ f % 8 = 0) (hR : RepX w1 B q v X T) (hl : X.length ≤ 150)
    (hk0 : Keep (fun x => x = q) w w1) (hk1 : Keep (fun _ => False) w1 w2) (hN : w2.heap.size = N) (hB : B ≤ w1.heap.size) (hg : w1.heap.size ≤ g1) (hO : w2.heap[g1]? = some (.cells (boE.cs (bl 0)).toArray 4 (0, 0)))
    (hk2 : Keep (fun z => N ≤ z) w2 w3) (hP : O.Perm (⟨s, y, f, g1, 8, T, 0⟩ :: X)) (hv3 : OwnL oxE w3 N 53 v3 O) :
    ∃ v' X' g1, X'.Perm (⟨s, y, f, g1, 8, T, 0⟩ :: X) ∧ RepX (w3.setCell ⟨q, 0, none⟩ v3) B q v' X' T ∧ Keep (fun x => x = q) w (w3.setCell ⟨q, 0, none⟩ v3) ∧ (∀ x, v'.ownBlock = some x → w.heap.size ≤ x) := by
  subst hN
  have hpl := block_lt hR.hp
  have hk : Keep (fun _ => False) w1 w3 := ((hk1.mono (T := fun x => w1.heap.size ≤ x) (fun _ _ h => h.elim)).trans (hk2.mono (T := fun x => w1.heap.size ≤ x) (fun x _ h => by have := hk1.size; omega))).fresh (fun _ h => h) (Nat.le_refl _)
  have KP := (Keep.refl (fun x => x = q) w3).setCell (p := ⟨q, 0, none⟩) (fun _ => rfl) v3
  have h12 := hk1.size
  have hgl : g1 < w2.heap.size := block_lt hO
  have hvl := hv3.lt
  have hbo : OwnL boE w3 B 4 (.slice (some ⟨g1, 0, none⟩) 8 8) (bl 0) :=
    OwnL.of_block (cur := boE.cs (bl 0)) ((hk2.block g1 hgl (by omega)).trans hO) rfl (Nat.le_refl _) (by unfold maxLen; omega) rfl (by rw [List.take_of_length_le (by rw [boE.cs_length]; exact Nat.le_refl _)]) (by omega)
  have hm : ∀ x, x ∈ O → x = ⟨s, y, f, g1, 8, T, 0⟩ ∨ x ∈ X := fun x hx => by simpa using hP.mem_iff.mp hx
  have hR3 := hR.keep0 hk
  obtain ⟨a1, a2, a3, a4, a5⟩ := h
  refine ⟨v3, O, g1, hP, ⟨?_, ?_, ?_, ?_, ?_, ?_, ?_, ?_, hR.ht⟩, (hk0.trans (hk.mono (fun _ _ h => h.elim))).setCell (fun _ => rfl) _, fun x hx => by have := hk0.size; have := (hvl x hx).1; omega⟩
  · rw [heap_setCell_eq hR3.hp]; simp
  · exact (hv3.base (C := B) (fun x hx => by have := (hvl x hx).1; omega)).keep KP (fun x hx => by have := (hvl x hx).1; omega)
  · intro x hx
    rcases hm x hx with rfl | hx
    · exact hbo.keep KP (fun y hy => by simp [Value.ownBlock] at hy; omega)
    · exact (hR3.hb x hx).keep KP (fun y hy => by simp [Ox.v, Value.ownBlock] at hy; have := (hR.nb x hx).1; omega)
  · intro e; have := (hvl q e).1; omega
  · intro x hx
    rcases hm x hx with rfl | hx
    · exact ⟨by show g1 ≠ q; omega, fun e => by have := (hvl g1 e).1; omega⟩
    · exact ⟨(hR.nb x hx).1, fun e => by have := (hvl _ e).1; have := (hR.glt hx).2; omega⟩
  · rw [hP.length_eq]; simp; omega
  · intro x hx
    rcases hm x hx with rfl | hx
    · exact ⟨a1, a2, by show y ≤ 4088; omega, h8.1, a4, a5, h8.2⟩
    · exact hR.hf x hx
  · intro x hx
    rcases hm x hx with rfl | hx
    · exact (show (0 : Nat) < 256 by decide)
    · exact hR.hc x hx

theorem perm_ab {α : Type} {O T : List α} (a b : α) (h : O.Perm T) : ((O ++ [a]) ++ [b]).Perm (a :: (T ++ [b])) :=
  ((List.perm_append_singleton a O).trans (h.cons a)).append_right [b]

def MadeX (w : World) (B q : Nat) (v : Value) (X : List Ox) (T s y f : Int) (e : Ending) (w' : World) : Prop :=
  e = .returned (.int .i64 0) ∧ ∃ v' X' g1, X'.Perm (⟨s, y, f, g1, 8, T + 1, 0⟩ :: X) ∧ RepX w' B q v' X' (T + 1) ∧ Keep (fun x => x = q) w w' ∧ (∀ x, v'.ownBlock = some x → w.heap.size ≤ x)

set_option maxRecDepth 100000 in
set_option maxHeartbeats 4000000 in
theorem makeX_any (B q : Nat) (v : Value) (X : List Ox) (T : Int) (s y f : Int) (h : mkOk s y f) (h8 : y % 8 = 0 ∧ f % 8 = 0) (hn1 : atX X s y = -1) (hn2 : ofX X f = -1) (w : World) (hB : B ≤ w.heap.size) (hl : X.length ≤ 150) (hT : T < 1000) (hR : RepX w B q v X T) :
    Calls Try.prog 36 #[.pointer (some ⟨q, 0, none⟩), .int .i64 s, .int .i64 y, .int .i64 f] w (MadeX w B q v X T s y f) := by
  have HH := Lib.hid h
  have H8 := Lib.hid h8
  obtain ⟨h1, h2, h3, h4, h5⟩ := h
  have e1 : ((y % 8) != 0) = false := by simpa using h8.1
  have e2 : ((f % 8) != 0) = false := by simpa using h8.2
  have HA := Lib.hid (at_any B q v X T s y w hR)
  have HF := Lib.hid (of_at B q v X T f w hR)
  rw [hn1] at HA
  rw [hn2] at HF
  clear h8 hn1 hn2
  have hmk := make38
  have ht := hR.ht
  have hc0 := hR.c0
  have hc1 := hR.c1
  have hpl := block_lt hR.hp
  have fz : w.frozen? ⟨q, 1, none⟩ = false := frozen_block hR.hp
  have hT1 : IntKind.i64.wrap (T + 1) = T + 1 := IntWalk.i64_in _ (by omega)
  have HR1 := Lib.hid (hR.time (T' := T + 1) (by omega))
  have HK1 : Hid (Keep (fun x => x = q) w (w.setCell ⟨q, 1, none⟩ (.int .i64 (T + 1)))) := (Keep.refl (fun x => x = q) w).setCell (p := ⟨q, 1, none⟩) (fun _ => rfl) _
  go_enter Try.func36, Try.ntmps36
  go_wp2_with (first | (go_at_call 22; refine HA.out.mono ?_; rintro e w1 ⟨rfl, rfl⟩) | (go_at_call 44; refine HF.out.mono ?_; rintro e w1 ⟨rfl, rfl⟩))
  clear hc0 hc1 fz
  have hs1 := HK1.out.size
  generalize w.setCell ⟨q, 1, none⟩ (.int .i64 (T + 1)) = w1 at HR1 HK1 hs1 ⊢
  have hc1 := HR1.out.c1
  have hpl1 := block_lt HR1.out.hp
  go_region
  all_goals
    have K2 : Hid (Keep (fun _ => False) w1 ((w1.alloc (.cells (boE.cs (bl 0)).toArray 4)).alloc (.cells #[.int .i64 s, .int .i64 y, .int .i64 f, .slice (some ⟨w1.heap.size, 0, none⟩) 8 8, .int .i64 (T + 1)] 53)).drew) := (by (repeat (first | exact Keep.refl _ _ | exact Keep.refl _ _ | refine Keep.drew ?_ | refine Keep.drewN ?_ _ | refine Keep.alloc ?_ _ | refine Keep.setNew ?_ (by omega) _)); done)
    have HG : Hid (((w1.alloc (.cells (boE.cs (bl 0)).toArray 4)).alloc (.cells #[.int .i64 s, .int .i64 y, .int .i64 f, .slice (some ⟨w1.heap.size, 0, none⟩) 8 8, .int .i64 (T + 1)] 53)).drew.heap[w1.heap.size]? = some (.cells (boE.cs (bl 0)).toArray 4 (0, 0))) := heap_one w1 _ _
    have HN : Hid (((w1.alloc (.cells (boE.cs (bl 0)).toArray 4)).alloc (.cells #[.int .i64 s, .int .i64 y, .int .i64 f, .slice (some ⟨w1.heap.size, 0, none⟩) 8 8, .int .i64 (T + 1)] 53)).drew.heap[w1.heap.size + 1]? = some (.cells #[.int .i64 s, .int .i64 y, .int .i64 f, .slice (some ⟨w1.heap.size, 0, none⟩) 8 8, .int .i64 (T + 1)] 53 (0, 0))) := heap_two w1 _ _
    have K2' : Hid (Keep (fun _ => False) w1 ((w1.alloc (.cells #[.int .i64 s, .int .i64 y, .int .i64 f, .slice (some ⟨w1.heap.size + 1, 0, none⟩) 8 8, .int .i64 (T + 1)] 53)).alloc (.cells (boE.cs (bl 0)).toArray 4)).drew) := (by (repeat (first | exact Keep.refl _ _ | exact Keep.refl _ _ | refine Keep.drew ?_ | refine Keep.drewN ?_ _ | refine Keep.alloc ?_ _ | refine Keep.setNew ?_ (by omega) _)); done)
    have HN' : Hid (((w1.alloc (.cells #[.int .i64 s, .int .i64 y, .int .i64 f, .slice (some ⟨w1.heap.size + 1, 0, none⟩) 8 8, .int .i64 (T + 1)] 53)).alloc (.cells (boE.cs (bl 0)).toArray 4)).drew.heap[w1.heap.size]? = some (.cells #[.int .i64 s, .int .i64 y, .int .i64 f, .slice (some ⟨w1.heap.size + 1, 0, none⟩) 8 8, .int .i64 (T + 1)] 53 (0, 0))) := heap_one w1 _ _
    have HG' : Hid (((w1.alloc (.cells #[.int .i64 s, .int .i64 y, .int .i64 f, .slice (some ⟨w1.heap.size + 1, 0, none⟩) 8 8, .int .i64 (T + 1)] 53)).alloc (.cells (boE.cs (bl 0)).toArray 4)).drew.heap[w1.heap.size + 1]? = some (.cells (boE.cs (bl 0)).toArray 4 (0, 0))) := heap_two w1 _ _
    have hg0 : w1.heap.size ≤ w1.heap.size := Nat.le_refl _
    have hg1 : w1.heap.size ≤ w1.heap.size + 1 := by omega
    first
    | (obtain ⟨w2, hw2⟩ : ∃ z, ((w1.alloc (.cells (boE.cs (bl 0)).toArray 4)).alloc (.cells #[.int .i64 s, .int .i64 y, .int .i64 f, .slice (some ⟨w1.heap.size, 0, none⟩) 8 8, .int .i64 (T + 1)] 53)).drew = z := ⟨_, rfl⟩
       rw [hw2] at K2 HG HN ⊢
       clear K2' HG' HN' hw2 hg1
       obtain ⟨n9, hn9⟩ : ∃ z, w1.heap.size + 1 = z := ⟨_, rfl⟩
       rw [hn9] at HN ⊢
       clear hn9
       obtain ⟨g1, hgg⟩ : ∃ z, w1.heap.size = z := ⟨_, rfl⟩
       have HGE : Hid (w1.heap.size ≤ g1) := by unfold Hid; omega
       rw [hgg] at HG HN ⊢
       clear hgg hg0)
    | (obtain ⟨w2, hw2⟩ : ∃ z, ((w1.alloc (.cells #[.int .i64 s, .int .i64 y, .int .i64 f, .slice (some ⟨w1.heap.size + 1, 0, none⟩) 8 8, .int .i64 (T + 1)] 53)).alloc (.cells (boE.cs (bl 0)).toArray 4)).drew = z := ⟨_, rfl⟩
       rw [hw2] at K2' HG' HN' ⊢
       clear K2 HG HN hw2 hg0
       have K2 := K2'
       have HG := HG'
       have HN := HN'
       clear K2' HG' HN'
       obtain ⟨g1, hgg⟩ : ∃ z, w1.heap.size + 1 = z := ⟨_, rfl⟩
       have HGE : Hid (w1.heap.size ≤ g1) := by unfold Hid; omega
       rw [hgg] at HG HN ⊢
       clear hgg hg1
       obtain ⟨n9, hn9⟩ : ∃ z, w1.heap.size = z := ⟨_, rfl⟩
       rw [hn9] at HN ⊢
       clear hn9)
    have hs2 := K2.out.size
    have hnl := block_lt HN.out
    have hgl := block_lt HG.out
    have HR2 := Lib.hid (HR1.out.keep0 K2.out)
    clear hc1
    obtain ⟨N, hNN⟩ : ∃ z, w2.heap.size = z := ⟨_, rfl⟩
    have HNN := Lib.hid hNN
    rw [hNN] at hs2 hnl hgl
    clear hNN
    obtain ⟨av, cv, rfl, hav⟩ := HR2.out.hv.slice
    have HAV := Lib.hid hav
    clear hav
    go_wp2
    go_loopw [10, 11, 12] (fun o d i wr => ∃ k : Nat, k ≤ X.length ∧ i = .int .i64 k ∧ ∃ (o' : Value) (O : List Ox) (dn : Bool), o' = o ∧ d = .bool dn ∧ O.Perm (if dn = true then ⟨s, y, f, g1, 8, T + 1, 0⟩ :: X.take k else X.take k) ∧ OwnL oxE wr N 53 o' O ∧ Keep (fun z => N ≤ z) w2 wr) (fun _ _ i _ => X.length - (intOf i).toNat)
    case atStart => exact ⟨0, by omega, rfl, _, [], false, rfl, rfl, by simp, OwnL.nil _ _ _, Keep.refl _ _⟩
    case round =>
      obtain ⟨k, hk, rfl, o, O, dn, ho, rfl, hP, hO, hkeep⟩ := hrel
      subst ho
      have HP := Lib.hid hP
      have HO := Lib.hid hO
      have HK := Lib.hid hkeep
      have HKw := Lib.hid (hkeep.fresh (fun _ h => h) (by rw [HNN.out]; exact Nat.le_refl _))
      have HR3 := Lib.hid (HR2.out.keep0 HKw.out)
      have hc0 := HR3.out.c0
      have hszr := hkeep.size
      rw [HNN.out] at hszr
      have holen : O.length ≤ 151 := by rw [hP.length_eq]; split <;> simp <;> omega
      clear hP hO hkeep
      by_cases hlt : k < X.length
      · obtain ⟨g, rfl⟩ := HAV.out (by intro e; rw [e] at hlt; simp at hlt)
        obtain ⟨d0, d1, d2, d3, d4⟩ := ox_cells2 HR3.out.hv hlt
        have HXT : Hid (X.take (k + 1) = X.take k ++ [X[k]]) := List.take_succ_eq_append_getElem hlt
        obtain ⟨⟨zs, zp, zf, zg, zc, zt, zb⟩, hxk⟩ : ∃ z, X[k] = z := ⟨_, rfl⟩
        have HXK : Hid (oxE.c X[k] = [.int .i64 zs, .int .i64 zp, .int .i64 zf, .slice (some ⟨zg, 0, none⟩) 8 zc, .int .i64 zt]) := by unfold Hid; rw [hxk]; rfl
        rw [hxk] at d0 d1 d2 d3 d4
        simp only at d0 d1 d2 d3 d4
        clear hxk
        obtain ⟨ao, co, rfl, -⟩ := HO.out.slice
        have hn9 := (HK.out.block n9 (by rw [HNN.out]; omega) (by omega)).trans HN.out
        obtain ⟨m0, m1, m2, m3, m4⟩ := cells5 hn9
        clear hn9
        have hn9l : n9 < wr.heap.size := by omega
        cases dn with
        | true =>
          go_wp2_with (at_builtin; (refine wpl_app et46 rfl (.tmp 108) (.tmp 110) rfl N _ _ _ rfl (HO.out.keep (S := fun _ => False) (by (repeat (first | exact Keep.refl _ _ | exact Keep.refl _ _ | refine Keep.drew ?_ | refine Keep.drewN ?_ _ | refine Keep.alloc ?_ _ | refine Keep.setNew ?_ (by omega) _)); done) (fun _ _ => id)) _ 1 [.int .i64 zs, .int .i64 zp, .int .i64 zf, .slice (some ⟨zg, 0, none⟩) 8 zc, .int .i64 zt] (by first | rfl | simp [Act.eval]) (Reads.new (heap_alloc_new _ _) rfl 1) (by simp [Value.oneCell']) (by unfold maxLen; omega) (by omega) (by simp; omega) ?_; intro v6 w6 hown6 hgrow6; obtain ⟨a6, l6, c6, rfl⟩ := own_slice hown6; have HK6 : Hid (Keep (fun z => N ≤ z) wr w6) := Keep.grown (by (repeat (first | exact Keep.refl _ _ | exact Keep.refl _ _ | refine Keep.drew ?_ | refine Keep.drewN ?_ _ | refine Keep.alloc ?_ _ | refine Keep.setNew ?_ (by omega) _)); done) hgrow6 (fun x h1 h2 => (HO.out.lt x h1).1); have HO6 : Hid (OwnL oxE w6 N 53 (.slice a6 l6 c6) (O ++ [X[k]])) := (by unfold Hid OwnL; rw [List.length_append, oxE.cs_append, oxE.cs_one, HXK.out]; exact hown6); clear hown6 hgrow6))
          go_roundw
          case rel => exact ⟨k + 1, by omega, by go_num, _, _, true, rfl, rfl, by have h1 := HP.out; rw [HXT.out, if_pos rfl]; rw [if_pos rfl] at h1; exact h1.append_right _, HO6.out, HK.out.trans HK6.out⟩
          case measure => simp [intOf]; omega
        | false =>
          rcases (show (s < zs) ∨ (¬ s < zs ∧ zs = s ∧ y < zp) ∨ (¬ s < zs ∧ zs = s ∧ ¬ y < zp) ∨ (¬ s < zs ∧ zs ≠ s) by omega) with t1 | ⟨t1, t2, t3⟩ | ⟨t1, t2, t3⟩ | ⟨t1, t2⟩
          · go_wp2_with (first | (at_builtin; (refine wpl_app et46 rfl (.tmp 104) (.tmp 106) rfl N _ _ _ rfl (HO.out.keep (S := fun _ => False) (by (repeat (first | exact Keep.refl _ _ | exact Keep.refl _ _ | refine Keep.drew ?_ | refine Keep.drewN ?_ _ | refine Keep.alloc ?_ _ | refine Keep.setNew ?_ (by omega) _)); done) (fun _ _ => id)) _ 1 [.int .i64 s, .int .i64 y, .int .i64 f, .slice (some ⟨g1, 0, none⟩) 8 8, .int .i64 (T + 1)] (by first | rfl | simp [Act.eval]) (Reads.new (heap_alloc_new _ _) rfl 1) (by simp [Value.oneCell']) (by unfold maxLen; omega) (by omega) (by simp; omega) ?_; intro v5 w5 hown5 hgrow5; obtain ⟨a5, l5, c5, rfl⟩ := own_slice hown5; have HK5 : Hid (Keep (fun z => N ≤ z) wr w5) := Keep.grown (by (repeat (first | exact Keep.refl _ _ | exact Keep.refl _ _ | refine Keep.drew ?_ | refine Keep.drewN ?_ _ | refine Keep.alloc ?_ _ | refine Keep.setNew ?_ (by omega) _)); done) hgrow5 (fun x h1 h2 => (HO.out.lt x h1).1); have HO5 : Hid (OwnL oxE w5 N 53 (.slice a5 l5 c5) (O ++ [⟨s, y, f, g1, 8, T + 1, 0⟩])) := (by unfold Hid OwnL; rw [List.length_append, oxE.cs_append, oxE.cs_one]; exact hown5); (have hy5 : w5.heap[wr.heap.size]? = some (.cells #[.int .i64 zs, .int .i64 zp, .int .i64 zf, .slice (some ⟨zg, 0, none⟩) 8 zc, .int .i64 zt] 53 (0, 0)) := (hgrow5.block wr.heap.size (by simp; omega) (fun e => by have := (HO.out.lt _ e.symm).2; omega)).trans (by simp only [heap_alloc_at, heap_drewN, heap_drew, World.size_alloc, Nat.left_eq_add, Nat.add_eq_left, Nat.reduceEqDiff, reduceIte, Nat.succ_ne_self, Nat.add_left_cancel_iff]); obtain ⟨y0, y1, y2, y3, y4⟩ := cells5 hy5; clear hy5; obtain ⟨O5, hO5⟩ : ∃ z, O ++ [(⟨s, y, f, g1, 8, T + 1, 0⟩ : Ox)] = z := ⟨_, rfl⟩; rw [hO5] at HO5; have hl5 : O5.length = O.length + 1 := (by rw [← hO5]; simp); have HOE := Lib.hid hO5; clear hO5; have hs5 := HK5.out.size); clear hown5 hgrow5)) | (at_builtin; (refine wpl_app et46 rfl (.tmp 108) (.tmp 110) rfl N _ _ _ rfl (HO5.out.keep (S := fun _ => False) (by (repeat (first | exact Keep.refl _ _ | exact Keep.refl _ _ | refine Keep.drew ?_ | refine Keep.drewN ?_ _ | refine Keep.alloc ?_ _ | refine Keep.setNew ?_ (by omega) _)); done) (fun _ _ => id)) _ 1 [.int .i64 zs, .int .i64 zp, .int .i64 zf, .slice (some ⟨zg, 0, none⟩) 8 zc, .int .i64 zt] (by first | rfl | simp [Act.eval]) (Reads.new (heap_alloc_new _ _) rfl 1) (by simp [Value.oneCell']) (by unfold maxLen; omega) (by omega) (by simp; omega) ?_; intro v6 w6 hown6 hgrow6; obtain ⟨a6, l6, c6, rfl⟩ := own_slice hown6; have HK6 : Hid (Keep (fun z => N ≤ z) wr w6) := Keep.grown (by (repeat (first | exact HK5.out | exact Keep.refl _ _ | refine Keep.drew ?_ | refine Keep.drewN ?_ _ | refine Keep.alloc ?_ _ | refine Keep.setNew ?_ (by omega) _)); done) hgrow6 (fun x h1 h2 => (HO5.out.lt x h1).1); have HO6 : Hid (OwnL oxE w6 N 53 (.slice a6 l6 c6) (O5 ++ [X[k]])) := (by unfold Hid OwnL; rw [List.length_append, oxE.cs_append, oxE.cs_one, HXK.out]; exact hown6); clear hown6 hgrow6)))
            go_roundw
            case rel => exact ⟨k + 1, by omega, by go_num, _, _, true, rfl, rfl, by have h1 := HP.out; rw [HXT.out, if_pos rfl]; rw [if_neg (by decide)] at h1; rw [← HOE.out]; exact perm_ab _ _ h1, HO6.out, HK.out.trans HK6.out⟩
            case measure => simp [intOf]; omega
          · have t2' : (zs == s) = true := by simpa using t2
            clear t2
            go_wp2_with (first | (at_builtin; (refine wpl_app et46 rfl (.tmp 104) (.tmp 106) rfl N _ _ _ rfl (HO.out.keep (S := fun _ => False) (by (repeat (first | exact Keep.refl _ _ | exact Keep.refl _ _ | refine Keep.drew ?_ | refine Keep.drewN ?_ _ | refine Keep.alloc ?_ _ | refine Keep.setNew ?_ (by omega) _)); done) (fun _ _ => id)) _ 1 [.int .i64 s, .int .i64 y, .int .i64 f, .slice (some ⟨g1, 0, none⟩) 8 8, .int .i64 (T + 1)] (by first | rfl | simp [Act.eval]) (Reads.new (heap_alloc_new _ _) rfl 1) (by simp [Value.oneCell']) (by unfold maxLen; omega) (by omega) (by simp; omega) ?_; intro v5 w5 hown5 hgrow5; obtain ⟨a5, l5, c5, rfl⟩ := own_slice hown5; have HK5 : Hid (Keep (fun z => N ≤ z) wr w5) := Keep.grown (by (repeat (first | exact Keep.refl _ _ | exact Keep.refl _ _ | refine Keep.drew ?_ | refine Keep.drewN ?_ _ | refine Keep.alloc ?_ _ | refine Keep.setNew ?_ (by omega) _)); done) hgrow5 (fun x h1 h2 => (HO.out.lt x h1).1); have HO5 : Hid (OwnL oxE w5 N 53 (.slice a5 l5 c5) (O ++ [⟨s, y, f, g1, 8, T + 1, 0⟩])) := (by unfold Hid OwnL; rw [List.length_append, oxE.cs_append, oxE.cs_one]; exact hown5); (have hy5 : w5.heap[wr.heap.size]? = some (.cells #[.int .i64 zs, .int .i64 zp, .int .i64 zf, .slice (some ⟨zg, 0, none⟩) 8 zc, .int .i64 zt] 53 (0, 0)) := (hgrow5.block wr.heap.size (by simp; omega) (fun e => by have := (HO.out.lt _ e.symm).2; omega)).trans (by simp only [heap_alloc_at, heap_drewN, heap_drew, World.size_alloc, Nat.left_eq_add, Nat.add_eq_left, Nat.reduceEqDiff, reduceIte, Nat.succ_ne_self, Nat.add_left_cancel_iff]); obtain ⟨y0, y1, y2, y3, y4⟩ := cells5 hy5; clear hy5; obtain ⟨O5, hO5⟩ : ∃ z, O ++ [(⟨s, y, f, g1, 8, T + 1, 0⟩ : Ox)] = z := ⟨_, rfl⟩; rw [hO5] at HO5; have hl5 : O5.length = O.length + 1 := (by rw [← hO5]; simp); have HOE := Lib.hid hO5; clear hO5; have hs5 := HK5.out.size); clear hown5 hgrow5)) | (at_builtin; (refine wpl_app et46 rfl (.tmp 108) (.tmp 110) rfl N _ _ _ rfl (HO5.out.keep (S := fun _ => False) (by (repeat (first | exact Keep.refl _ _ | exact Keep.refl _ _ | refine Keep.drew ?_ | refine Keep.drewN ?_ _ | refine Keep.alloc ?_ _ | refine Keep.setNew ?_ (by omega) _)); done) (fun _ _ => id)) _ 1 [.int .i64 zs, .int .i64 zp, .int .i64 zf, .slice (some ⟨zg, 0, none⟩) 8 zc, .int .i64 zt] (by first | rfl | simp [Act.eval]) (Reads.new (heap_alloc_new _ _) rfl 1) (by simp [Value.oneCell']) (by unfold maxLen; omega) (by omega) (by simp; omega) ?_; intro v6 w6 hown6 hgrow6; obtain ⟨a6, l6, c6, rfl⟩ := own_slice hown6; have HK6 : Hid (Keep (fun z => N ≤ z) wr w6) := Keep.grown (by (repeat (first | exact HK5.out | exact Keep.refl _ _ | refine Keep.drew ?_ | refine Keep.drewN ?_ _ | refine Keep.alloc ?_ _ | refine Keep.setNew ?_ (by omega) _)); done) hgrow6 (fun x h1 h2 => (HO5.out.lt x h1).1); have HO6 : Hid (OwnL oxE w6 N 53 (.slice a6 l6 c6) (O5 ++ [X[k]])) := (by unfold Hid OwnL; rw [List.length_append, oxE.cs_append, oxE.cs_one, HXK.out]; exact hown6); clear hown6 hgrow6)))
            go_roundw
            case rel => exact ⟨k + 1, by omega, by go_num, _, _, true, rfl, rfl, by have h1 := HP.out; rw [HXT.out, if_pos rfl]; rw [if_neg (by decide)] at h1; rw [← HOE.out]; exact perm_ab _ _ h1, HO6.out, HK.out.trans HK6.out⟩
            case measure => simp [intOf]; omega
          · have t2' : (zs == s) = true := by simpa using t2
            clear t2
            go_wp2_with (at_builtin; (refine wpl_app et46 rfl (.tmp 108) (.tmp 110) rfl N _ _ _ rfl (HO.out.keep (S := fun _ => False) (by (repeat (first | exact Keep.refl _ _ | exact Keep.refl _ _ | refine Keep.drew ?_ | refine Keep.drewN ?_ _ | refine Keep.alloc ?_ _ | refine Keep.setNew ?_ (by omega) _)); done) (fun _ _ => id)) _ 1 [.int .i64 zs, .int .i64 zp, .int .i64 zf, .slice (some ⟨zg, 0, none⟩) 8 zc, .int .i64 zt] (by first | rfl | simp [Act.eval]) (Reads.new (heap_alloc_new _ _) rfl 1) (by simp [Value.oneCell']) (by unfold maxLen; omega) (by omega) (by simp; omega) ?_; intro v6 w6 hown6 hgrow6; obtain ⟨a6, l6, c6, rfl⟩ := own_slice hown6; have HK6 : Hid (Keep (fun z => N ≤ z) wr w6) := Keep.grown (by (repeat (first | exact Keep.refl _ _ | exact Keep.refl _ _ | refine Keep.drew ?_ | refine Keep.drewN ?_ _ | refine Keep.alloc ?_ _ | refine Keep.setNew ?_ (by omega) _)); done) hgrow6 (fun x h1 h2 => (HO.out.lt x h1).1); have HO6 : Hid (OwnL oxE w6 N 53 (.slice a6 l6 c6) (O ++ [X[k]])) := (by unfold Hid OwnL; rw [List.length_append, oxE.cs_append, oxE.cs_one, HXK.out]; exact hown6); clear hown6 hgrow6))
            go_roundw
            case rel => exact ⟨k + 1, by omega, by go_num, _, _, false, rfl, rfl, by have h1 := HP.out; rw [HXT.out, if_neg (by decide)]; rw [if_neg (by decide)] at h1; exact h1.append_right _, HO6.out, HK.out.trans HK6.out⟩
            case measure => simp [intOf]; omega
          · have t2' : (zs == s) = false := by simpa using t2
            clear t2
            go_wp2_with (at_builtin; (refine wpl_app et46 rfl (.tmp 108) (.tmp 110) rfl N _ _ _ rfl (HO.out.keep (S := fun _ => False) (by (repeat (first | exact Keep.refl _ _ | exact Keep.refl _ _ | refine Keep.drew ?_ | refine Keep.drewN ?_ _ | refine Keep.alloc ?_ _ | refine Keep.setNew ?_ (by omega) _)); done) (fun _ _ => id)) _ 1 [.int .i64 zs, .int .i64 zp, .int .i64 zf, .slice (some ⟨zg, 0, none⟩) 8 zc, .int .i64 zt] (by first | rfl | simp [Act.eval]) (Reads.new (heap_alloc_new _ _) rfl 1) (by simp [Value.oneCell']) (by unfold maxLen; omega) (by omega) (by simp; omega) ?_; intro v6 w6 hown6 hgrow6; obtain ⟨a6, l6, c6, rfl⟩ := own_slice hown6; have HK6 : Hid (Keep (fun z => N ≤ z) wr w6) := Keep.grown (by (repeat (first | exact Keep.refl _ _ | exact Keep.refl _ _ | refine Keep.drew ?_ | refine Keep.drewN ?_ _ | refine Keep.alloc ?_ _ | refine Keep.setNew ?_ (by omega) _)); done) hgrow6 (fun x h1 h2 => (HO.out.lt x h1).1); have HO6 : Hid (OwnL oxE w6 N 53 (.slice a6 l6 c6) (O ++ [X[k]])) := (by unfold Hid OwnL; rw [List.length_append, oxE.cs_append, oxE.cs_one, HXK.out]; exact hown6); clear hown6 hgrow6))
            go_roundw
            case rel => exact ⟨k + 1, by omega, by go_num, _, _, false, rfl, rfl, by have h1 := HP.out; rw [HXT.out, if_neg (by decide)]; rw [if_neg (by decide)] at h1; exact h1.append_right _, HO6.out, HK.out.trans HK6.out⟩
            case measure => simp [intOf]; omega
      · obtain rfl : k = X.length := by omega
        have HPT : Hid (X.take X.length = X) := List.take_length
        have hn9 := (HK.out.block n9 (by rw [HNN.out]; omega) (by omega)).trans HN.out
        obtain ⟨m0, m1, m2, m3, m4⟩ := cells5 hn9
        clear hn9
        have fz : wr.frozen? ⟨q, 0, none⟩ = false := frozen_block HR3.out.hp
        obtain ⟨ao, co, rfl, -⟩ := HO.out.slice
        have hn9l : n9 < wr.heap.size := by omega
        cases dn with
        | true =>
          go_wp2
          go_ret
          exact ⟨rfl, makeX_close HH.out H8.out HR1.out hl HK1.out K2.out HNN.out (by omega) HGE.out HG.out HK.out (by have h1 := HP.out; simp only [if_true, HPT.out] at h1; exact h1) HO.out⟩
        | false =>
          go_wp2_with (at_builtin; (refine wpl_app et46 rfl (.tmp 114) (.tmp 116) rfl N _ _ _ rfl (HO.out.keep (S := fun _ => False) (by (repeat (first | exact Keep.refl _ _ | exact Keep.refl _ _ | refine Keep.drew ?_ | refine Keep.drewN ?_ _ | refine Keep.alloc ?_ _ | refine Keep.setNew ?_ (by omega) _)); done) (fun _ _ => id)) _ 1 [.int .i64 s, .int .i64 y, .int .i64 f, .slice (some ⟨g1, 0, none⟩) 8 8, .int .i64 (T + 1)] (by first | rfl | simp [Act.eval]) (Reads.new (heap_alloc_new _ _) rfl 1) (by simp [Value.oneCell']) (by unfold maxLen; omega) (by omega) (by simp; omega) ?_; intro v5 w5 hown5 hgrow5; obtain ⟨a5, l5, c5, rfl⟩ := own_slice hown5; have HK5 : Hid (Keep (fun z => N ≤ z) wr w5) := Keep.grown (by (repeat (first | exact Keep.refl _ _ | exact Keep.refl _ _ | refine Keep.drew ?_ | refine Keep.drewN ?_ _ | refine Keep.alloc ?_ _ | refine Keep.setNew ?_ (by omega) _)); done) hgrow5 (fun x h1 h2 => (HO.out.lt x h1).1); have HO5 : Hid (OwnL oxE w5 N 53 (.slice a5 l5 c5) (O ++ [⟨s, y, f, g1, 8, T + 1, 0⟩])) := (by unfold Hid OwnL; rw [List.length_append, oxE.cs_append, oxE.cs_one]; exact hown5); (have hq5 : w5.heap[q]? = some (.cells #[.slice av X.length cv, .int .i64 (T + 1)] 48 (0, 0)) := (hgrow5.block q (by have := block_lt HR3.out.hp; simp; omega) (fun e => by have := (HO.out.lt _ e.symm).1; have := block_lt HR1.out.hp; have := K2.out.size; rw [HNN.out] at this; omega)).trans (by first | exact HR3.out.hp | (have := block_lt HR3.out.hp; rw [heap_alloc_at, if_neg (by omega)]; exact HR3.out.hp)); have fz5 : w5.frozen? ⟨q, 0, none⟩ = false := frozen_block hq5; obtain ⟨cq0, cq1⟩ := cells2 hq5; clear hq5; have hpl5 := block_lt HR3.out.hp; have hsz5 := HK5.out.size); clear hown5 hgrow5))
          go_ret
          exact ⟨rfl, makeX_close HH.out H8.out HR1.out hl HK1.out K2.out HNN.out (by omega) HGE.out HG.out (HK.out.trans HK5.out) (by have h1 := HP.out; rw [if_neg (by decide), HPT.out] at h1; exact (List.perm_append_singleton _ _).trans (h1.cons _)) HO5.out⟩

end Go.Proofs.Ytmbgebmhdofdaaa
