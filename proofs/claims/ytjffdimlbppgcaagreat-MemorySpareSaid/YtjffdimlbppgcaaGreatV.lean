/- Buddy: awake; BuddyNone. -/
import Derived.Test.YtjffdimlbppgcaaGreatT
set_option linter.unusedVariables false
set_option linter.unusedSimpArgs false
namespace Go.Proofs.YtjffdimlbppgcaaGreat
open Go.RowKit Go.Own

/- Part U: Buddy: Blocks. -/
def bkl (S : Nat → Nat → Bool) (n k : Nat) : List Bk := (ls S n k).map fun (a : Nat) => (⟨(a : Int), (k : Int)⟩ : Bk)
def flat (S : Nat → Nat → Bool) (n K : Nat) : List Bk := (List.range K).flatMap (bkl S n)
theorem flat_succ (S : Nat → Nat → Bool) (n K : Nat) : flat S n (K + 1) = flat S n K ++ bkl S n K := by
  unfold flat; rw [List.range_succ, List.flatMap_append]; simp
theorem bkl_len (S : Nat → Nat → Bool) (n k : Nat) : (bkl S n k).length = (li S n k).length := by simp [bkl, li]
theorem bkl_get (S : Nat → Nat → Bool) (n k j : Nat) (h1 : j < (bkl S n k).length) (h2 : j < (li S n k).length) : (bkl S n k)[j] = ⟨(li S n k)[j], (k : Int)⟩ := by simp [bkl, li]
theorem flat_len (S : Nat → Nat → Bool) (n : Nat) : ∀ K, (flat S n K).length ≤ n * K
  | 0 => by simp [flat]
  | K + 1 => by
    rw [flat_succ, List.length_append, bkl_len]
    have := flat_len S n K
    have := li_len S n K
    rw [Nat.mul_succ]; omega
theorem flat_mem (S : Nat → Nat → Bool) (n K : Nat) (x : Bk) : x ∈ flat S n K ↔ ∃ k a : Nat, k < K ∧ a < n ∧ S k a = true ∧ x = ⟨(a : Int), (k : Int)⟩ := by
  unfold flat bkl
  rw [List.mem_flatMap]
  constructor
  · rintro ⟨k, hk, h⟩
    obtain ⟨a, ha, rfl⟩ := List.mem_map.mp h
    rw [ls_mem] at ha
    rw [List.mem_range] at hk
    exact ⟨k, a, hk, ha.1, ha.2, rfl⟩
  · rintro ⟨k, a, hk, ha, hs, rfl⟩
    exact ⟨k, List.mem_range.mpr hk, List.mem_map.mpr ⟨a, (ls_mem S n k a).mpr ⟨ha, hs⟩, rfl⟩⟩
theorem flat_nodup (S : Nat → Nat → Bool) (n : Nat) : ∀ K, (flat S n K).Nodup
  | 0 => by simp [flat]
  | K + 1 => by
    rw [flat_succ, List.nodup_append]
    refine ⟨flat_nodup S n K, ?_, fun x hx y hy e => ?_⟩
    · unfold bkl ls List.Nodup
      rw [List.pairwise_map]
      refine (List.pairwise_lt_range.filter _).imp ?_
      intro a b h e
      injection e with e1 e2
      omega
    · subst e
      obtain ⟨k, a, hk, _, _, rfl⟩ := (flat_mem S n K x).mp hx
      unfold bkl at hy
      obtain ⟨b, _, e2⟩ := List.mem_map.mp hy
      injection e2 with e3 e4
      omega
/-- The blocks of F, in order. -/
def IsBl (F : Nat → Bool) (D : List Bk) : Prop := D.Pairwise (fun x y => x.f < y.f) ∧ ∀ x, x ∈ D ↔ ∃ k a : Nat, mx F k a ∧ x = ⟨(a : Int), (k : Int)⟩
theorem isBl_of {S : Nat → Nat → Bool} {F : Nat → Bool} {n : Nat} {D : List Bk} (hR : Rp S F) (hF : ∀ i, F i = true → i < n) (hp : D.Perm (flat S n 9)) (hs : D.Pairwise leF) : IsBl F D := by
  have hm : ∀ x, x ∈ D ↔ ∃ k a : Nat, mx F k a ∧ x = ⟨(a : Int), (k : Int)⟩ := fun x => by
    rw [hp.mem_iff, flat_mem]
    constructor
    · rintro ⟨k, a, hk, _, hs, rfl⟩
      exact ⟨k, a, (hR k a (by omega)).mp hs, rfl⟩
    · rintro ⟨k, a, h, rfl⟩
      exact ⟨k, a, by have := h.1; omega, mx_lt hF h, (hR k a h.1).mpr h, rfl⟩
  refine ⟨?_, hm⟩
  have hn : D.Nodup := (hp.nodup_iff).mpr (flat_nodup S n 9)
  rw [List.pairwise_iff_getElem] at hs ⊢
  intro i j hi hj hij
  have h1 := hs i j hi hj hij
  have h2 : D[i] ≠ D[j] := (List.pairwise_iff_getElem.mp hn) i j hi hj hij
  obtain ⟨k, a, g1, g2⟩ := (hm _).mp (List.getElem_mem hi)
  obtain ⟨q, b, g3, g4⟩ := (hm _).mp (List.getElem_mem hj)
  rw [g2, g4] at h1 h2 ⊢
  unfold leF at h1
  simp only at h1 ⊢
  by_cases e : a = b
  · exfalso
    subst e
    obtain ⟨e1, _⟩ := mx_uniq (i := a) g1 g3 (Nat.le_refl _) (by have := p2 k; omega) (Nat.le_refl _) (by have := p2 q; omega)
    exact h2 (by rw [e1])
  · omega
theorem isBl_uniq {F : Nat → Bool} : ∀ {D E : List Bk}, D.Pairwise (fun x y => x.f < y.f) → E.Pairwise (fun x y => x.f < y.f) → (∀ x, x ∈ D ↔ x ∈ E) → D = E
  | [], [], _, _, _ => rfl
  | [], e :: E, _, _, h => by have := (h e).mpr (List.mem_cons_self ..); cases this
  | d :: D, [], _, _, h => by have := (h d).mp (List.mem_cons_self ..); cases this
  | d :: D, e :: E, h1, h2, h => by
    have p1 := List.pairwise_cons.mp h1
    have p2 := List.pairwise_cons.mp h2
    have hde : d = e := by
      rcases List.mem_cons.mp ((h d).mp (List.mem_cons_self ..)) with h3 | h3
      · exact h3
      · rcases List.mem_cons.mp ((h e).mpr (List.mem_cons_self ..)) with h4 | h4
        · exact h4.symm
        · have := p2.1 d h3; have := p1.1 e h4; omega
    subst hde
    congr 1
    refine isBl_uniq (F := F) p1.2 p2.2 fun x => ?_
    have h3 := h x
    rw [List.mem_cons, List.mem_cons] at h3
    constructor
    · intro hx
      rcases h3.mp (.inr hx) with h4 | h4
      · subst h4; have := p1.1 x hx; omega
      · exact h4
    · intro hx
      rcases h3.mpr (.inr hx) with h4 | h4
      · subst h4; have := p2.1 x hx; omega
      · exact h4

theorem ins_small (a : Option Addr) (n c : Nat) (hn : n ≤ 1) (fv : Value) (w : World) : Calls Tryz.prog 113 #[.slice a n c, .int .i64 0, .int .i64 n, fv] w fun e w' => e = .returned (.tuple #[]) ∧ w = w' := by
  have hn' : (n : Int) ≤ 1 := by omega
  go_enter Tryz.func113, Tryz.ntmps113
  go_wp2
  refine wp_loop_once ?_
  go_wp2
  go_end0
  exact ⟨rfl, rfl⟩

set_option maxHeartbeats 400000 in
theorem pdq_small (a : Option Addr) (n c : Nat) (hn : n ≤ 1) (m : Int) (fv : Value) (w : World) : Calls Tryz.prog 106 #[.slice a n c, .int .i64 0, .int .i64 n, .int .i64 m, fv] w fun e w' => e = .returned (.tuple #[]) ∧ w = w' := by
  have hn' : (n : Int) ≤ 1 := by omega
  go_enter Tryz.func106, Tryz.ntmps106
  go_wp2
  refine wp_loop_once ?_
  go_wp2_with (go_at_call 113; go_loud (refine (ins_small a n c hn _ _).mono ?_; rintro e w1 ⟨rfl, rfl⟩))
  exact bodyPost_ret (results_none rfl _ _ _) rfl ⟨rfl, rfl⟩

set_option maxRecDepth 100000 in
set_option maxHeartbeats 1000000 in
theorem len64 (n : Nat) (hn : n ≤ 1) (w : World) : Calls Tryz.prog 122 #[.int .u64 n] w fun e w' => (∃ m, e = .returned (.int .i64 m)) ∧ w = w' := by
  have hc : n = 0 ∨ n = 1 := by omega
  rcases hc with rfl | rfl
  all_goals
    go_enter Tryz.func122, Tryz.ntmps122
    go_wp2
    go_ret
    exact ⟨⟨_, rfl⟩, rfl⟩

set_option maxHeartbeats 400000 in
theorem len0 (n : Nat) (hn : n ≤ 1) (w : World) : Calls Tryz.prog 107 #[.int .u64 n] w fun e w' => (∃ m, e = .returned (.int .i64 m)) ∧ w = w' := by
  go_enter Tryz.func107, Tryz.ntmps107
  go_wp2_with (go_at_call 122; go_loud (refine (len64 n hn _).mono ?_; rintro e w1 ⟨⟨m, rfl⟩, rfl⟩))
  go_ret
  exact ⟨⟨_, rfl⟩, rfl⟩

set_option maxHeartbeats 400000 in
theorem sort_small (a : Option Addr) (n c : Nat) (hn : n ≤ 1) (fv : Value) (w : World) : Calls Tryz.prog 98 #[.slice a n c, fv] w fun e w' => e = .returned (.tuple #[]) ∧ w = w' := by
  have hn' : (n : Int) ≤ 1 := by omega
  have hw1 : IntKind.u64.wrap (n : Int) = (n : Int) := by
    have hc : n = 0 ∨ n = 1 := by omega
    rcases hc with rfl | rfl <;> decide
  go_enter Tryz.func98, Tryz.ntmps98
  go_wp2_with (first | (go_at_call 107; go_loud (refine (len0 n hn _).mono ?_; rintro e w1 ⟨⟨m, rfl⟩, rfl⟩)) | (go_at_call 106; go_loud (refine (pdq_small a n c hn m _ _).mono ?_; rintro e w1 ⟨rfl, rfl⟩)))
  go_end0
  exact ⟨rfl, rfl⟩



set_option maxHeartbeats 400000 in
theorem blocks_nil (w : World) : Calls Tryz.prog 83 #[.pointer none] w fun e w' => e = .returned (.slice none 0 0) ∧ Keep (fun _ => False) w w' := by
  go_enter Tryz.func83, Tryz.ntmps83
  go_wp2
  go_ret
  exact ⟨rfl, (by (repeat (first | exact Keep.refl _ _ | exact Keep.refl _ _ | refine Keep.drew ?_ | refine Keep.drewN ?_ _ | refine Keep.alloc ?_ _ | refine Keep.setNew ?_ (by omega) _)); done)⟩

set_option maxHeartbeats 1000000 in
theorem index9 (V : Nat → Value) (k : Nat) (hk : k ≤ 8) (W : World) : Sem.run Tryz.prog (Instr.index 116 (.agg #[V 0, V 1, V 2, V 3, V 4, V 5, V 6, V 7, V 8]) (.int .i64 (k : Int))) W = Result.ok (V k) W := by
  have h := Tryz.underlying116
  rcases le8 hk with rfl | rfl | rfl | rfl | rfl | rfl | rfl | rfl | rfl <;> simp [Instr.index, run_underlying h, h, go_sem]

def BlC (F : Nat → Bool) (w : World) (e : Ending) (w' : World) : Prop := ∃ v D, e = .returned v ∧ OwnL bkE w' w.heap.size 96 v D ∧ IsBl F D ∧ D.length ≤ 10000 ∧ Keep (fun _ => False) w w'

set_option maxRecDepth 100000 in
set_option maxHeartbeats 4000000 in
theorem blocks_any {w : World} {B p n : Nat} {F : Nat → Bool} {G : Nat → Prop} (h : BF w B p n F G) :
    Calls Tryz.prog 83 #[.pointer (some ⟨p, 0, none⟩)] w (BlC F w) := by
  have hn := h.hn
  obtain ⟨S, ⟨V, hV, hGV⟩, hR, hF⟩ := h
  have HV := Lib.hid hV
  have HR := Lib.hid (And.intro hR hF)
  have c0 := hV.cV (k := 0) (by omega)
  have c1 := hV.cV (k := 1) (by omega)
  have c2 := hV.cV (k := 2) (by omega)
  have c3 := hV.cV (k := 3) (by omega)
  have c4 := hV.cV (k := 4) (by omega)
  have c5 := hV.cV (k := 5) (by omega)
  have c6 := hV.cV (k := 6) (by omega)
  have c7 := hV.cV (k := 7) (by omega)
  have c8 := hV.cV (k := 8) (by omega)
  simp only [Nat.reduceAdd, Nat.add_zero] at c0 c1 c2 c3 c4 c5 c6 c7 c8
  clear hV hGV hR hF
  go_enter Tryz.func83, Tryz.ntmps83
  go_wp2
  go_loopw [3, 15] (fun o i wr => ∃ k : Nat, k ≤ 9 ∧ i = .int .i64 k ∧ ∃ o' : Value, o' = o ∧ OwnL bkE wr w.heap.size 96 o' (flat S n k) ∧ Keep (fun _ => False) w wr) (fun _ i _ => 9 - (intOf i).toNat)
  case atStart => exact ⟨0, by omega, rfl, _, rfl, OwnL.nil _ _ _, (by (repeat (first | exact Keep.refl _ _ | exact Keep.refl _ _ | refine Keep.drew ?_ | refine Keep.drewN ?_ _ | refine Keep.alloc ?_ _ | refine Keep.setNew ?_ (by omega) _)); done)⟩
  case round =>
    obtain ⟨k, hk, rfl, o, ho, hO, hkeep⟩ := hrel
    subst ho
    have HO := Lib.hid hO
    have HK := Lib.hid hkeep
    clear hO hkeep c0 c1 c2 c3 c4 c5 c6 c7 c8
    by_cases hlt : k < 9
    · have k9 : (k : Int) < 9 := by omega
      have kz : (0 : Int) ≤ (k : Int) := Int.natCast_nonneg k
      have hidx := index9 V k (by omega)
      have HVk := Lib.hid (HV.out.hv k (by omega))
      have HFS := Lib.hid (flat_succ S n k)
      have hfl := flat_len S n k
      have hll := li_len S n k
      have hbl := bkl_len S n k
      have hflb : (flat S n k).length ≤ 10000 := Nat.le_trans hfl (Nat.le_trans (Nat.mul_le_mul hn hk) (by decide))
      obtain ⟨v, hv⟩ : ∃ v, V k = v := ⟨_, rfl⟩
      rw [hv] at hidx HVk
      obtain ⟨av, cv, rfl, hag⟩ := HVk.out.slice
      have HAG := Lib.hid hag
      clear hv hfl hag
      go_wp2
      go_loopw [3, 21] (fun o2 i2 w5 => ∃ j : Nat, j ≤ (li S n k).length ∧ i2 = .int .i64 j ∧ ∃ o' : Value, o' = o2 ∧ OwnL bkE w5 w.heap.size 96 o' (flat S n k ++ (bkl S n k).take j) ∧ Keep (fun _ => False) w w5) (fun _ i2 _ => (li S n k).length - (intOf i2).toNat)
      case atStart => exact ⟨0, by omega, rfl, o, rfl, by rw [List.take_zero, List.append_nil]; exact HO.out, HK.out⟩
      case round =>
        obtain ⟨j, hj, rfl, o2, ho2, hO2, hkeep2⟩ := hrel
        subst ho2
        have HK2 := Lib.hid hkeep2
        clear hkeep2
        by_cases hjl : j < (li S n k).length
        · obtain ⟨g, rfl⟩ := HAG.out (by intro e; rw [e] at hjl; simp at hjl)
          have d0 := in_cell (HVk.out.keep HK2.out (fun _ _ => id)) hjl
          have hjb : j < (bkl S n k).length := by omega
          have hst : (bkl S n k).take (j + 1) = (bkl S n k).take j ++ [(bkl S n k)[j]] := List.take_succ_eq_append_getElem hjb
          have hel : (bkl S n k)[j] = ⟨(li S n k)[j], (k : Int)⟩ := bkl_get S n k j hjb hjl
          obtain ⟨x, hx⟩ : ∃ x, (li S n k)[j] = x := ⟨_, rfl⟩
          rw [hx] at d0 hel
          rw [hel] at hst
          have HST := Lib.hid hst
          obtain ⟨X, hX⟩ : ∃ X, flat S n k ++ (bkl S n k).take j = X := ⟨_, rfl⟩
          have HXX := Lib.hid hX
          rw [hX] at hO2
          have hXl : X.length ≤ 20000 := by rw [← hX]; simp; omega
          obtain ⟨a2, c2, rfl, -⟩ := hO2.slice
          have HO2 := Lib.hid hO2
          clear hx hel hst hX hO2
          go_wp2_with (at_builtin; go_loud (refine wpl_appF et43 rfl (.tmp 25) (.tmp 29) rfl w.heap.size (.slice a2 X.length c2) X.length (bkE.cs X) rfl (OwnL.keep HO2.out (Keep.alloc (Keep.refl (fun _ => False) _) _) (fun _ _ => id)) ⟨wr.heap.size, 0, none⟩ 1 1 (bkE.c ⟨x, (k : Int)⟩) rfl rfl (new_cells (heap_alloc_new wr _)) (bkE.one _) (by unfold maxLen; omega) (by omega) (by have := HK2.out.size; simp; omega) ?_; intro v6 w6 hown6 hgrow6 hf6; have HO6 : Hid (OwnL bkE w6 w.heap.size 96 v6 (flat S n k ++ (bkl S n k).take (j + 1))) := (by unfold Hid; rw [HST.out, ← List.append_assoc, HXX.out]; unfold OwnL; rw [List.length_append, bkE.cs_append, bkE.cs_one]; exact hown6); have HK6 : Hid (Keep (fun _ => False) w w6) := (Keep.on HK2.out (Keep.grown (S := fun z => (Value.slice a2 X.length c2).ownBlock = some z) (Keep.alloc (Keep.refl _ wr) _) hgrow6 (fun z h1 h2 => h1)) (fun z hz e => by have := (HO2.out.lt z e).1; omega)); clear hown6 hgrow6 hf6))
          go_roundw
          case rel => exact ⟨j + 1, by omega, by go_num, _, rfl, HO6.out, HK6.out⟩
          case measure => simp [intOf]; omega
        · obtain rfl : j = (li S n k).length := by omega
          have HO3 : Hid (OwnL bkE wr w.heap.size 96 o2 (flat S n (k + 1))) := by
            unfold Hid
            rw [HFS.out]
            rw [List.take_of_length_le (by omega)] at hO2; exact hO2
          clear hO2
          go_wp2
          go_roundw
          case rel => exact ⟨k + 1, by omega, by go_num, _, rfl, HO3.out, HK2.out⟩
          case measure => simp [intOf]; omega
    · obtain rfl : k = 9 := by omega
      have hfl := flat_len S n 9
      have hX9 : (flat S n 9).length ≤ 10000 := by omega
      have hfin : ∀ x, x ∈ flat S n 9 → fine x := fun x hx => by
        obtain ⟨q, a, _, ha, _, rfl⟩ := (flat_mem S n 9 x).mp hx
        unfold fine; simp only; omega
      obtain ⟨a2, c2, rfl, hag2⟩ := HO.out.slice
      have HS : Hid (Calls Tryz.prog 98 #[.slice a2 (flat S n 9).length c2, .func (.func 99) #[] #[]] wr fun e w' => e = .returned (.tuple #[]) ∧ ∃ L' : List Bk, L'.Perm (flat S n 9) ∧ L'.Pairwise leF ∧ OwnL bkE w' w.heap.size 96 (.slice a2 (flat S n 9).length c2) L' ∧ Keep (fun z => (Value.slice a2 (flat S n 9).length c2).ownBlock = some z) wr w') := by
        by_cases h1 : (flat S n 9).length ≤ 1
        · refine (sort_small a2 (flat S n 9).length c2 h1 _ wr).mono ?_
          rintro e w1 ⟨rfl, rfl⟩
          refine ⟨rfl, flat S n 9, List.Perm.refl _, ?_, HO.out, Keep.refl _ _⟩
          match flat S n 9, h1 with
          | [], _ => exact List.Pairwise.nil
          | [x], _ => exact List.pairwise_singleton _ _
        · obtain ⟨g, rfl⟩ := hag2 (by intro e; rw [e] at h1; simp at h1)
          refine (sort_any w.heap.size g c2 (flat S n 9) hfin (by omega) wr HO.out).mono ?_
          rintro e w1 ⟨rfl, L', h2, h3, h4, h5⟩
          exact ⟨rfl, L', h2, h3, h4, h5.mono fun z _ hz => by subst hz; rfl⟩
      clear hfl hfin hag2
      go_wp2_with (go_at_call 98; refine HS.out.mono ?_; rintro e w6 ⟨rfl, L', hp, hs, hO6, hk6⟩)
      go_ret
      exact ⟨_, L', rfl, hO6, isBl_of HR.out.1 HR.out.2 hp hs, by rw [hp.length_eq]; exact hX9, HK.out.on hk6 fun z hz e => by have := (HO.out.lt z e).1; omega⟩

/- Part V: Buddy: awake; BuddyNone. -/
/-- The object, its rows wherever. -/
def BFs (w : World) (B p n : Nat) (F : Nat → Bool) : Prop := BF w B p n F (fun x => B ≤ x ∧ x < w.heap.size)
theorem BF.std {w : World} {B p n : Nat} {F : Nat → Bool} {G : Nat → Prop} (h : BF w B p n F G) : BFs w B p n F := by
  obtain ⟨S, ⟨V, h1, h2⟩, h3⟩ := h
  exact ⟨S, ⟨V, h1, fun j hj x hx => (h1.hv j hj).lt x hx⟩, h3⟩
theorem BFs.keep0 {w w' : World} {B p n : Nat} {F : Nat → Bool} (h : BFs w B p n F) (k : Keep (fun _ => False) w w') : BFs w' B p n F := (BF.keep0 h k).std
theorem took_std {w w' : World} {B p n : Nat} {F' : Nat → Bool} (h : TookC w w' B p n F' (fun x => B ≤ x ∧ x < w.heap.size)) : BFs w' B p n F' ∧ Keep (fun z => z = p ∨ B ≤ z) w w' := ⟨h.1.std, h.2.mono fun z _ hz => hz.imp id And.left⟩

theorem sub16 : ∀ k a, mx (subB (upTo 16) 0 0) k a ↔ (k = 0 ∧ a = 1) ∨ (k = 1 ∧ a = 2) ∨ (k = 2 ∧ a = 4) ∨ (k = 3 ∧ a = 8) := by
  have hF : ∀ i, subB (upTo 16) 0 0 i = true ↔ 1 ≤ i ∧ i < 16 := fun i => by
    rw [subB_iff]; unfold upTo; rw [decide_eq_true_eq]; omega
  have h4 : ∀ k a, ((k = 0 ∧ a = 1) ∨ (k = 1 ∧ a = 2) ∨ (k = 2 ∧ a = 4) ∨ (k = 3 ∧ a = 8)) → mx (subB (upTo 16) 0 0) k a := by
    rintro k a (⟨rfl, rfl⟩ | ⟨rfl, rfl⟩ | ⟨rfl, rfl⟩ | ⟨rfl, rfl⟩)
    all_goals
      refine ⟨by decide, by decide, fun i h1 h2 => by rw [hF]; omega, fun ⟨_, hb⟩ => ?_⟩
      have := hb 0 (by decide) (by decide)
      rw [hF] at this; omega
  intro k a
  refine ⟨fun hm => ?_, h4 k a⟩
  have h1 := (hF a).mp (hm.2.2.1 a (Nat.le_refl _) (by have := p2 k; omega))
  have hc : (∃ q b, ((q = 0 ∧ b = 1) ∨ (q = 1 ∧ b = 2) ∨ (q = 2 ∧ b = 4) ∨ (q = 3 ∧ b = 8)) ∧ b ≤ a ∧ a < b + 2 ^ q) := by
    by_cases e1 : a < 2
    · exact ⟨0, 1, .inl ⟨rfl, rfl⟩, by omega, by omega⟩
    by_cases e2 : a < 4
    · exact ⟨1, 2, .inr (.inl ⟨rfl, rfl⟩), by omega, by omega⟩
    by_cases e3 : a < 8
    · exact ⟨2, 4, .inr (.inr (.inl ⟨rfl, rfl⟩)), by omega, by omega⟩
    · exact ⟨3, 8, .inr (.inr (.inr ⟨rfl, rfl⟩)), by omega, by omega⟩
  obtain ⟨q, b, hqb, h2, h3⟩ := hc
  obtain ⟨e1, e2⟩ := mx_uniq hm (h4 q b hqb) (Nat.le_refl _) (by have := p2 k; omega) h2 h3
  rw [e1, e2]; exact hqb
theorem up16 : ∀ k a, mx (upTo 16) k a ↔ k = 4 ∧ a = 0 := by
  have hF : ∀ i, upTo 16 i = true ↔ i < 16 := fun i => by unfold upTo; rw [decide_eq_true_eq]
  have h4 : mx (upTo 16) 4 0 := by
    refine ⟨by decide, by decide, fun i h1 h2 => by rw [hF]; omega, fun ⟨_, hb⟩ => ?_⟩
    have := hb 16 (by decide) (by decide)
    rw [hF] at this; omega
  intro k a
  refine ⟨fun hm => ?_, ?_⟩
  · have h1 := (hF a).mp (hm.2.2.1 a (Nat.le_refl _) (by have := p2 k; omega))
    exact mx_uniq hm h4 (Nat.le_refl _) (by have := p2 k; omega) (Nat.zero_le _) (by omega)
  · rintro ⟨rfl, rfl⟩; exact h4
theorem isBl_len {F : Nat → Bool} {D : List Bk} (h : IsBl F D) (E : List Bk) (hs : E.Pairwise (fun x y => x.f < y.f)) (hm : ∀ x, x ∈ E ↔ ∃ k a : Nat, mx F k a ∧ x = ⟨(a : Int), (k : Int)⟩) : D = E :=
  isBl_uniq (F := F) h.1 hs fun x => by rw [h.2 x, hm x]
theorem bl_sub16 {D : List Bk} (h : IsBl (subB (upTo 16) 0 0) D) : D.length = 4 := by
  rw [isBl_len h [⟨1, 0⟩, ⟨2, 1⟩, ⟨4, 2⟩, ⟨8, 3⟩] (by simp) (fun x => by
    constructor
    · intro hx
      simp only [List.mem_cons, List.not_mem_nil, or_false] at hx
      rcases hx with rfl | rfl | rfl | rfl
      · exact ⟨0, 1, (sub16 _ _).mpr (.inl ⟨rfl, rfl⟩), rfl⟩
      · exact ⟨1, 2, (sub16 _ _).mpr (.inr (.inl ⟨rfl, rfl⟩)), rfl⟩
      · exact ⟨2, 4, (sub16 _ _).mpr (.inr (.inr (.inl ⟨rfl, rfl⟩))), rfl⟩
      · exact ⟨3, 8, (sub16 _ _).mpr (.inr (.inr (.inr ⟨rfl, rfl⟩))), rfl⟩
    · rintro ⟨k, a, hm, rfl⟩
      rcases (sub16 k a).mp hm with ⟨rfl, rfl⟩ | ⟨rfl, rfl⟩ | ⟨rfl, rfl⟩ | ⟨rfl, rfl⟩ <;> simp)]
  rfl
theorem bl_up16 {D : List Bk} (h : IsBl (upTo 16) D) : D.length = 1 := by
  rw [isBl_len h [⟨0, 4⟩] (by simp) (fun x => by
    constructor
    · intro hx
      simp only [List.mem_cons, List.not_mem_nil, or_false] at hx
      subst hx
      exact ⟨4, 0, (up16 _ _).mpr ⟨rfl, rfl⟩, rfl⟩
    · rintro ⟨k, a, hm, rfl⟩
      obtain ⟨rfl, rfl⟩ := (up16 k a).mp hm
      simp)]
  rfl
theorem add16 : addB (subB (upTo 16) 0 0) 0 0 = upTo 16 := add_sub fun i h1 h2 => by simp [upTo]; simp at h2; omega

theorem cells_fo {w W : World} {b e : Nat} {x0 x1 x2 x3 x4 : Value} {z : Nat × Nat} (h : w.heap[b]? = some (.cells #[x0, x1, x2, x3, x4] e z)) (K : Keep (fun _ => False) w W) : W.cell? ⟨b, 1, none⟩ = some x1 ∧ W.cell? ⟨b, 2, none⟩ = some x2 := by
  have h2 := (K.block b (block_lt h) id).trans h
  simp [cell_block h2]

end Go.Proofs.YtjffdimlbppgcaaGreat
