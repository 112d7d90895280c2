/- Compounds: the queue. -/
import Derived.Test.YtdomdjfecnbenaaAH
set_option linter.unusedVariables false
set_option linter.unusedSimpArgs false
namespace Go.Proofs.Ytdomdjfecnbenaa
open Go.RowKit Go.Own

/-- What the queue tells. -/
theorem heap_two' (w : World) (a b : Obj) : ((w.alloc a).alloc b).heap[w.heap.size + 1]? = some b := by
  have h := heap_alloc_new (w.alloc a) b
  rw [World.size_alloc] at h
  exact h

def qL (L : List Cp) (Q : List Int) : List Cp := Q.map fun f => L.getD (whI L f).toNat ⟨0, 0⟩
theorem qL_len (L : List Cp) (Q : List Int) : (qL L Q).length = Q.length := List.length_map _

set_option maxRecDepth 100000 in
set_option maxHeartbeats 1000000 in
theorem queue_any (B p : Nat) (v u : Value) (L : List Cp) (Q : List Int) (w : World) (hR : RepC w B p v u L Q)
    (hq : ∀ f, f ∈ Q → ∃ x k : Nat, f = x ∧ x < 1024 ∧ x / 8 * 8 = x ∧ whI L x = k ∧ k < L.length) :
    Calls Try.prog 14 #[.pointer (some ⟨p, 0, none⟩)] w fun e w' => ∃ v', e = .returned v' ∧ OwnL cpE w' w.heap.size 39 v' (qL L Q) ∧ Keep (fun _ => False) w w' := by
  have hc1 := hR.c1
  have hlq := hR.hq
  have HR := Lib.hid hR
  have HQ := Lib.hid hq
  obtain ⟨a, cap, rfl, hag⟩ := hR.hu.slice
  have HAG := Lib.hid hag
  clear hag hR hq
  go_enter Try.func14, Try.ntmps14
  go_wp2
  go_loopw [3, 16] (fun o i wr => ∃ k : Nat, k ≤ Q.length ∧ i = .int .i64 k ∧ ∃ o' : Value, o' = o ∧ OwnL cpE wr w.heap.size 39 o' ((qL L Q).take k) ∧ Keep (fun x => w.heap.size ≤ x) w wr) (fun _ i _ => Q.length - (intOf i).toNat)
  case atStart => exact ⟨0, by omega, rfl, _, rfl, OwnL.nil _ _ _, Keep.refl _ _⟩
  case round =>
    obtain ⟨k, hk, rfl, o, ho, hO, hkeep⟩ := hrel
    subst ho
    have HO := Lib.hid hO
    have HK := Lib.hid (hkeep.fresh (fun _ h => h) (Nat.le_refl _))
    have hsz := hkeep.size
    clear hO hkeep
    by_cases hlt : k < Q.length
    · obtain ⟨g, rfl⟩ := HAG.out (by intro e; rw [e] at hlt; simp at hlt)
      have HR1 := Lib.hid (HR.out.keep0 HK.out)
      have c0 := in_cell HR1.out.hu hlt
      obtain ⟨x, m, hx1, hx2, hx3, hx4, hx5⟩ := HQ.out _ (List.getElem_mem hlt)
      have hF : Hid ((qL L Q).take (k + 1) = (qL L Q).take k ++ [L[m]]) := by
        unfold Hid
        rw [List.take_succ_eq_append_getElem (by rw [qL_len]; exact hlt)]
        congr 2
        simp only [qL, List.getElem_map, hx1, hx4, Int.toNat_natCast]
        simp [hx5]
      rw [hx1] at c0
      have HX4 : Hid (whI L ((x / 8 * 8 : Nat) : Int) = m) := by unfold Hid; rw [hx3]; exact hx4
      obtain ⟨y, hy⟩ : ∃ y, L[m] = y := ⟨_, rfl⟩
      have HY := Lib.hid hy
      rw [hy] at hF
      clear hx1 hx3 hx4 hy
      have htl : ((qL L Q).take k).length = k := by rw [List.length_take, qL_len]; omega
      obtain ⟨ao, co, rfl, -⟩ := HO.out.slice
      rw [htl]
      rw [htl] at HO
      go_wp2_with (first | (go_at_call 23; refine (get_yes B p v _ L Q x m hx2 _ HR1.out HX4.out hx5).mono ?_; rw [HY.out]; unfold cpV; rintro e w3 ⟨rfl, hk3⟩; have HK3 := Lib.hid hk3; have HOk : Hid (w3.ownsRow w.heap.size 39 cpE.k (.slice ao k co) k (cpE.cs ((qL L Q).take k))) := (by have h := HO.out.keep hk3 (fun _ _ => id); unfold OwnL at h; rw [htl] at h; exact h); clear hk3) | (at_builtin; (refine wpl_app et31 rfl (.tmp 26) (.tmp 28) rfl w.heap.size _ k (cpE.cs ((qL L Q).take k)) rfl ((HOk.out.alloc _).alloc _) (.slice (some ⟨w3.heap.size + 1, 0, none⟩) 1 1) 1 (cpE.c y) rfl (Reads.new (heap_two' _ _ _) rfl 1) (cpE.one y) (by unfold maxLen; omega) (by omega) (by have := HK3.out.size; simp; omega) ?_; intro v1 w1 hown1 hgrow1; have HK1 : Hid (Keep (fun x => w.heap.size ≤ x) w w1) := Keep.grown (((HK.out.trans HK3.out).mono (fun _ _ h => h.elim)).alloc _ |>.alloc _) hgrow1 (fun x h1 h2 => by have := (HO.out.lt x h1).1; omega); have HO1 : Hid (OwnL cpE w1 w.heap.size 39 v1 ((qL L Q).take (k + 1))) := (by unfold Hid; rw [hF.out]; unfold OwnL; rw [List.length_append, htl, cpE.cs_append, cpE.cs_one]; exact hown1); clear hown1 hgrow1)))
      go_roundw
      case rel => exact ⟨k + 1, by omega, by go_num, _, rfl, HO1.out, HK1.out⟩
      case measure => simp [intOf]; omega
    · obtain rfl : k = Q.length := by omega
      have hO := HO.out
      rw [List.take_of_length_le (by rw [qL_len]; exact Nat.le_refl _)] at hO
      have HO2 := Lib.hid hO
      clear hO
      go_wp2
      go_ret
      exact ⟨_, rfl, HO2.out, HK.out⟩

end Go.Proofs.Ytdomdjfecnbenaa
