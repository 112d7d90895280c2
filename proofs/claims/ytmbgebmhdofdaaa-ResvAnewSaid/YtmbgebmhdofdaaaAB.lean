/- Reservations: the reference's Break. -/
import Derived.Test.YtmbgebmhdofdaaaAA
set_option linter.unusedVariables false
set_option linter.unusedSimpArgs false
namespace Go.Proofs.Ytmbgebmhdofdaaa
open Go.RowKit Go.Own

theorem mem_rmv_of {α : Type} {L : List α} {k : Nat} {x : α} (h : x ∈ rmv L k) : x ∈ L := by
  rcases List.mem_append.mp h with h | h
  · exact List.mem_of_mem_take h
  · exact List.mem_of_mem_drop h
theorem rmv_snoc {α : Type} (L : List α) (a : α) (k : Nat) : rmv (L ++ [a]) k = if k = L.length then rmv L k else rmv L k ++ [a] := by
  unfold rmv
  split
  · next h => subst h; simp
  · next h =>
    by_cases h2 : k < L.length
    · rw [List.take_append_of_le_length (by omega), List.drop_append_of_le_length (by omega), List.append_assoc]
    · rw [List.take_of_length_le (by simp; omega), List.drop_of_length_le (by simp; omega), List.take_of_length_le (by omega), List.drop_of_length_le (by omega)]
      simp

theorem breakX_close {w w2 w3 : World} {B q k N : Nat} {v v3 : Value} {X : List Ox} {T : Int} (hR : RepX w B q v X T) (hk : k < X.length) (hk1 : Keep (fun _ => False) w w2) (hN : w2.heap.size = N) (hB : B ≤ w.heap.size)
    (hk2 : Keep (fun z => N ≤ z) w2 w3) (hv3 : OwnL oxE w3 N 53 v3 (rmv X k)) :
    RepX (w3.setCell ⟨q, 0, none⟩ v3) B q v3 (rmv X k) T ∧ Keep (fun x => x = q) w (w3.setCell ⟨q, 0, none⟩ v3) ∧ (∀ x, v3.ownBlock = some x → w.heap.size ≤ x) := by
  subst hN
  have hpl := block_lt hR.hp
  have hk' : Keep (fun _ => False) w w3 := ((hk1.mono (T := fun x => w.heap.size ≤ x) (fun _ _ h => h.elim)).trans (hk2.mono (T := fun x => w.heap.size ≤ x) (fun x _ h => by have := hk1.size; omega))).fresh (fun _ h => h) (Nat.le_refl _)
  have KP := (Keep.refl (fun x => x = q) w3).setCell (p := ⟨q, 0, none⟩) (fun _ => rfl) v3
  have h12 := hk1.size
  have hvl := hv3.lt
  have hR3 := hR.keep0 hk'
  refine ⟨⟨?_, ?_, ?_, ?_, ?_, ?_, fun x hx => hR.hf x (mem_rmv_of hx), fun x hx => hR.hc x (mem_rmv_of hx), hR.ht⟩, Keep.setCell (p := ⟨q, 0, none⟩) (hk'.mono (T := fun x => x = q) (fun _ _ h => h.elim)) (fun _ => rfl) _, fun x hx => by have := (hvl x hx).1; omega⟩
  · rw [heap_setCell_eq hR3.hp]; simp
  · exact (hv3.base (C := B) (fun x hx => by have := (hvl x hx).1; omega)).keep KP (fun x hx => by have := (hvl x hx).1; omega)
  · exact fun x hx => (hR3.hb x (mem_rmv_of hx)).keep KP (fun y hy => by simp [Ox.v, Value.ownBlock] at hy; have := (hR.nb x (mem_rmv_of hx)).1; omega)
  · intro e; have := (hvl q e).1; omega
  · intro x hx
    exact ⟨(hR.nb x (mem_rmv_of hx)).1, fun e => by have := (hvl _ e).1; have := (hR.glt (mem_rmv_of hx)).2; omega⟩
  · rw [rmv_length hk]; have := hR.hl; omega

set_option maxHeartbeats 1000000 in
theorem breakX_none (B q : Nat) (v : Value) (X : List Ox) (T s y : Int) (w : World) (hR : RepX w B q v X T) (hn : atX X s y = -1) :
    Calls Try.prog 20 #[.pointer (some ⟨q, 0, none⟩), .int .i64 s, .int .i64 y] w fun e w' => e = .returned (.tuple #[.slice none 0 0, .int .i64 6]) ∧ w = w' := by
  have HA := Lib.hid (at_any B q v X T s y w hR)
  rw [hn] at HA
  clear hn
  go_enter Try.func20, Try.ntmps20
  go_wp2_with (go_at_call 22; refine HA.out.mono ?_; rintro e w1 ⟨rfl, rfl⟩)
  go_ret2
  exact ⟨rfl, rfl⟩

def BrkX (w : World) (B q k : Nat) (X : List Ox) (T : Int) (x : Ox) (e : Ending) (w' : World) : Prop :=
  ∃ y v', e = .returned (.tuple #[y, .int .i64 0]) ∧ RepX w' B q v' (rmv X k) T ∧ OwnL inE w' w.heap.size 3 y (opX x) ∧ Keep (fun y => y = q) w w' ∧ (∀ y, v'.ownBlock = some y → w.heap.size ≤ y)

set_option maxRecDepth 100000 in
set_option maxHeartbeats 4000000 in
theorem breakX_yes (B q k : Nat) (v : Value) (X : List Ox) (T s y : Int) (x : Ox) (w : World) (hB : B ≤ w.heap.size) (hR : RepX w B q v X T) (hn : atX X s y = k) (hk : k < X.length) (he : X[k] = x) :
    Calls Try.prog 20 #[.pointer (some ⟨q, 0, none⟩), .int .i64 s, .int .i64 y] w (BrkX w B q k X T x) := by
  have HA := Lib.hid (at_any B q v X T s y w hR)
  rw [hn] at HA
  obtain ⟨g, cap, rfl, hBg, hcap, hgl⟩ := hR.hv.form (by intro e; subst e; simp at hk)
  have hl := hR.hl
  have hfx := hR.hf _ (List.getElem_mem hk)
  have hbo := hR.hb _ (List.getElem_mem hk)
  rw [he] at hbo hfx
  have HO := Lib.hid (openX_any B x ⟨hfx.2.2.2.2.1, hfx.2.2.2.2.2.1⟩ w hbo)
  have c5 := hR.c0
  obtain ⟨c0, c1, c2, c3, c4⟩ := ox_cells2 hR.hv hk
  rw [he] at c0 c1 c2 c3 c4
  obtain ⟨xs, xp, xf, xg, xc, xt, xb⟩ := x
  unfold oxV Ox.v at HO
  simp only at c0 c1 c2 c3 c4 HO
  have k0 : (0 : Int) ≤ k := by omega
  clear hn he hbo hfx
  go_enter Try.func20, Try.ntmps20
  go_wp2_with (first | (go_at_call 22; refine HA.out.mono ?_; rintro e w1 ⟨rfl, rfl⟩) | (go_at_call 34; refine HO.out.mono ?_; rintro e w2 ⟨u2, rfl, hO2, hk2⟩; have HO2 := Lib.hid hO2; have HK2 := Lib.hid hk2; obtain ⟨au, cu, rfl, -⟩ := hO2.slice; clear hO2 hk2))
  have HR2 := Lib.hid (hR.keep0 HK2.out)
  clear c0 c1 c2 c3 c4 c5
  obtain ⟨N, hNN⟩ : ∃ z, w2.heap.size = z := ⟨_, rfl⟩
  have HNN := Lib.hid hNN
  have hs2 := HK2.out.size
  rw [hNN] at hs2
  clear hNN
  go_loopw [10, 11] (fun o i wr => ∃ m : Nat, m ≤ X.length ∧ i = .int .i64 m ∧ ∃ o' : Value, o' = o ∧ OwnL oxE wr N 53 o' (rmv (X.take m) k) ∧ Keep (fun z => N ≤ z) w2 wr) (fun _ i _ => X.length - (intOf i).toNat)
  case atStart => exact ⟨0, by omega, rfl, _, rfl, by simp [rmv]; exact OwnL.nil _ _ _, Keep.refl _ _⟩
  case round =>
    obtain ⟨m, hm, rfl, o, ho, hO, hkeep⟩ := hrel
    subst ho
    have HOO := Lib.hid hO
    have HK := Lib.hid hkeep
    have HKw := Lib.hid (hkeep.fresh (fun _ h => h) (by rw [HNN.out]; exact Nat.le_refl _))
    have HR3 := Lib.hid (HR2.out.keep0 HKw.out)
    have hc0 := HR3.out.c0
    have hszr := hkeep.size
    rw [HNN.out] at hszr
    have hle : (rmv (X.take m) k).length ≤ 200 := by unfold rmv; simp; omega
    obtain ⟨O, hO'⟩ : ∃ O, rmv (X.take m) k = O := ⟨_, rfl⟩
    rw [hO'] at HOO hle
    have HOE := Lib.hid hO'
    clear hO' hO hkeep
    obtain ⟨ao, co, rfl, -⟩ := HOO.out.slice
    by_cases hlt : m < X.length
    · have HXT : Hid (X.take (m + 1) = X.take m ++ [X[m]]) := List.take_succ_eq_append_getElem hlt
      have HLM : Hid ((X.take m).length = m) := by unfold Hid; rw [List.length_take]; omega
      by_cases hmk : m = k
      · subst hmk
        have HN : Hid (rmv (X.take (m + 1)) m = O) := by unfold Hid; rw [HXT.out, rmv_snoc, if_pos HLM.out.symm]; exact HOE.out
        go_wp2
        go_roundw
        case rel => exact ⟨m + 1, by omega, by go_num, _, rfl, by rw [HN.out]; exact HOO.out, HK.out⟩
        case measure => simp [intOf]; omega
      · have HN : Hid (rmv (X.take (m + 1)) k = O ++ [X[m]]) := by unfold Hid; rw [HXT.out, rmv_snoc, if_neg (by rw [HLM.out]; omega), HOE.out]
        have t0 : ((m : Int) != (k : Int)) = true := by simp; omega
        clear hmk
        obtain ⟨d0, d1, d2, d3, d4⟩ := ox_cells2 HR3.out.hv hlt
        obtain ⟨⟨zs, zp, zf, zg, zc, zt, zb⟩, hxk⟩ : ∃ z, X[m] = z := ⟨_, rfl⟩
        have HXK : Hid (oxE.c X[m] = [.int .i64 zs, .int .i64 zp, .int .i64 zf, .slice (some ⟨zg, 0, none⟩) 8 zc, .int .i64 zt]) := by unfold Hid; rw [hxk]; rfl
        rw [hxk] at d0 d1 d2 d3 d4
        simp only at d0 d1 d2 d3 d4
        clear hxk
        have m0 : (0 : Int) ≤ m := by omega
        go_wp2_with (at_builtin; (refine wpl_app et46 rfl (.tmp 38) (.tmp 46) rfl N _ _ _ rfl (HOO.out.keep (S := fun _ => False) (by (repeat (first | exact Keep.refl _ _ | exact Keep.refl _ _ | refine Keep.drew ?_ | refine Keep.drewN ?_ _ | refine Keep.alloc ?_ _ | refine Keep.setNew ?_ (by omega) _)); done) (fun _ _ => id)) _ 1 [.int .i64 zs, .int .i64 zp, .int .i64 zf, .slice (some ⟨zg, 0, none⟩) 8 zc, .int .i64 zt] (by first | rfl | simp [Act.eval]) (Reads.new (heap_alloc_new _ _) rfl 1) (by simp [Value.oneCell']) (by unfold maxLen; omega) (by omega) (by simp; omega) ?_; intro v6 w6 hown6 hgrow6; obtain ⟨a6, l6, c6, rfl⟩ := own_slice hown6; have HK6 : Hid (Keep (fun z => N ≤ z) wr w6) := Keep.grown (by (repeat (first | exact Keep.refl _ _ | exact Keep.refl _ _ | refine Keep.drew ?_ | refine Keep.drewN ?_ _ | refine Keep.alloc ?_ _ | refine Keep.setNew ?_ (by omega) _)); done) hgrow6 (fun x h1 h2 => (HOO.out.lt x h1).1); have HO6 : Hid (OwnL oxE w6 N 53 (.slice a6 l6 c6) (O ++ [X[m]])) := (by unfold Hid OwnL; rw [List.length_append, oxE.cs_append, oxE.cs_one, HXK.out]; exact hown6); clear hown6 hgrow6))
        go_roundw
        case rel => exact ⟨m + 1, by omega, by go_num, _, rfl, by rw [HN.out]; exact HO6.out, HK.out.trans HK6.out⟩
        case measure => simp [intOf]; omega
    · obtain rfl : m = X.length := by omega
      have HN : Hid (O = rmv X k) := by unfold Hid; rw [← HOE.out, List.take_length]
      have fz : wr.frozen? ⟨q, 0, none⟩ = false := frozen_block HR3.out.hp
      have hcl := breakX_close hR hk HK2.out HNN.out hB HK.out (by rw [← HN.out]; exact HOO.out)
      have HCL := Lib.hid hcl
      clear hcl
      go_wp2
      go_ret2
      exact ⟨_, _, rfl, HCL.out.1, (HO2.out.keep HKw.out (fun _ _ => id)).keep ((Keep.refl (fun x => x = q) wr).setCell (p := ⟨q, 0, none⟩) (fun _ => rfl) _) (fun z hz => by have := (HO2.out.lt z hz).1; have := block_lt hR.hp; omega), HCL.out.2.1, HCL.out.2.2⟩

end Go.Proofs.Ytmbgebmhdofdaaa
