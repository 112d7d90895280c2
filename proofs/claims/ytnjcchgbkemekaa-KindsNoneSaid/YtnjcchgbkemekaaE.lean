/- Buddy: put, drop. -/
import Derived.Test.YtnjcchgbkemekaaD
set_option linter.unusedVariables false
set_option linter.unusedSimpArgs false
namespace Go.Proofs.Ytnjcchgbkemekaa
open Go.RowKit Go.Own

theorem boxI (w : World) (c : Int) : (w.alloc (.cells #[.int .i64 c] 3)).heap[w.heap.size]? = some (.cells (inE.c c).toArray 3 (0, 0)) := heap_alloc_new w _

/-- What put and drop leave. -/
def PutC (w : World) (B p n : Nat) (S : Nat → Nat → Bool) (fr : Int) (G : Nat → Prop) (e : Ending) (w' : World) : Prop :=
  e = .returned (.tuple #[]) ∧ BS w' B p n S fr (fun x => G x ∨ w.heap.size ≤ x) ∧ Keep (fun z => z = p ∨ G z) w w'

set_option maxRecDepth 100000 in
set_option maxHeartbeats 4000000 in
theorem put_any {w : World} {B p n k c : Nat} {S : Nat → Nat → Bool} {fr : Int} {G : Nat → Prop} (hB : B ≤ w.heap.size) (h : BS w B p n S fr G) (hk : k ≤ 8) (hc : c < n) (hs : S k c = false) :
    Calls Try.prog 56 #[.pointer (some ⟨p, 0, none⟩), .int .i64 (c : Int), .int .i64 (k : Int)] w (PutC w B p n (putS S k c) fr G) := by
  obtain ⟨V, hR, hG⟩ := h
  have HR := Lib.hid hR
  have HG := Lib.hid hG
  have HCT := Lib.hid (li_count S n k c hc)
  have HLP := Lib.hid (li_put S n k c hc hs)
  have hlen := li_len S n k
  have hn := hR.hn
  have hkz : (0 : Int) ≤ (k : Int) := Int.natCast_nonneg k
  have hk9 : (k : Int) < 9 := by omega
  obtain ⟨m, hm⟩ : ∃ m, (ls S c k).length = m := ⟨_, rfl⟩
  rw [hm] at HCT HLP
  have hml : m ≤ (li S n k).length := by rw [← HCT.out]; exact List.countP_le_length
  obtain ⟨fb, hfb⟩ : ∃ b, (li S n k).contains (c : Int) = b := ⟨_, rfl⟩
  have HPL := Lib.hid (place_any (c : Int) hR hk)
  rw [HCT.out, hfb] at HPL
  have HL2 : Hid ((li S n k).length ≤ 2000) := by unfold Hid; omega
  clear hR hG hm hfb hlen
  go_enter Try.func56, Try.ntmps56
  go_wp2_with (go_at_call 54; refine HPL.out.mono ?_; rintro e w1 ⟨rfl, hk1⟩; have HK1 := Lib.hid hk1; clear hk1)
  have HR1 := Lib.hid (HR.out.keep0 HK1.out)
  have hpl := block_lt HR1.out.hp
  have c1 := HR1.out.cV hk
  have fz := HR1.out.fz (1 + k)
  have HVS := Lib.hid (HR1.out.hv k hk).slice
  have hB1 : B ≤ w1.heap.size := Nat.le_trans hB HK1.out.size
  obtain ⟨vk, hvk⟩ : ∃ v, V k = v := ⟨_, rfl⟩
  have HVK := Lib.hid hvk
  have HO1 : Hid (OwnL inE w1 B 3 vk (li S n k)) := by rw [← hvk]; exact HR1.out.hv k hk
  have HNP : Hid (∀ x, vk.ownBlock = some x → x ≠ p) := by rw [← hvk]; exact HR1.out.np hk
  rw [hvk] at c1
  obtain ⟨av, cv, hav, -⟩ := HO1.out.slice
  obtain ⟨X, hX⟩ : ∃ X, li S n k = X := ⟨_, rfl⟩
  have HX := Lib.hid hX
  rw [hX] at HO1 HL2 hml hav
  clear hvk hX HVS
  subst hav
  refine wp_region_noPanic ?_
  refine wp_region_L (fun w' => w'.cell? ⟨p, 1 + k, none⟩ = some (.slice av X.length cv) ∧ w'.frozen? ⟨p, 1 + k, none⟩ = false) 15 (by kernel_rfl) (by (refine keepS2 (S := fun z => (Value.slice av X.length cv).ownBlock = some z) ?_ hpl (fun e => HNP.out p e rfl) c1 fz; (repeat (first | exact HK26.out | exact Keep.refl _ _ | refine Keep.drew ?_ | refine Keep.drewN ?_ _ | refine Keep.alloc ?_ _ | refine Keep.setNew ?_ (by omega) _)); done)) (fun hS0 => ?_)
  refine wpAnyL_take 0 (oi := { dst := some 15, op := Go.Op.move (Go.Operand.tmp 0), type := 67, pos := "buddy.go:42", after := #[], guard := none }) (v := ?_) rfl (by kernel_rfl) (by kernel_rfl) (by kernel_rfl) (by kernel_rfl) (fun _ _ _ h => h) (Or.inl ⟨by rfl, ?_⟩) (by assumption) ?_
  rotate_left
  · (intro w hSw; (try dsimp only at hSw); go_split_ands; go_simp; try (with_reducible rfl))
  simp only [Act.put, List.setIfInBounds_toArray, List.set_cons_zero, List.set_cons_succ]
  refine wpAnyL_take 1 (oi := { dst := some 16, op := Go.Op.move (Go.Operand.tmp 2), type := 3, pos := "buddy.go:42", after := #[], guard := none }) (v := ?_) rfl (by kernel_rfl) (by kernel_rfl) (by kernel_rfl) (by kernel_rfl) (fun _ _ _ h => h) (Or.inl ⟨by rfl, ?_⟩) (by assumption) ?_
  rotate_left
  · (intro w hSw; (try dsimp only at hSw); go_split_ands; go_simp; try (with_reducible rfl))
  simp only [Act.put, List.setIfInBounds_toArray, List.set_cons_zero, List.set_cons_succ]
  refine wpAnyL_take 2 (oi := { dst := some 17, op := Go.Op.move (Go.Operand.tmp 0), type := 67, pos := "buddy.go:42", after := #[], guard := none }) (v := ?_) rfl (by kernel_rfl) (by kernel_rfl) (by kernel_rfl) (by kernel_rfl) (fun _ _ _ h => h) (Or.inl ⟨by rfl, ?_⟩) (by assumption) ?_
  rotate_left
  · (intro w hSw; (try dsimp only at hSw); go_split_ands; go_simp; try (with_reducible rfl))
  simp only [Act.put, List.setIfInBounds_toArray, List.set_cons_zero, List.set_cons_succ]
  refine wpAnyL_take 3 (oi := { dst := some 18, op := Go.Op.move (Go.Operand.tmp 2), type := 3, pos := "buddy.go:42", after := #[], guard := none }) (v := ?_) rfl (by kernel_rfl) (by kernel_rfl) (by kernel_rfl) (by kernel_rfl) (fun _ _ _ h => h) (Or.inl ⟨by rfl, ?_⟩) (by assumption) ?_
  rotate_left
  · (intro w hSw; (try dsimp only at hSw); go_split_ands; go_simp; try (with_reducible rfl))
  simp only [Act.put, List.setIfInBounds_toArray, List.set_cons_zero, List.set_cons_succ]
  refine wpAnyL_take 4 (oi := { dst := some 19, op := Go.Op.nilCheck (Go.Operand.tmp 17), type := 0, pos := "buddy.go:42", after := #[{ on := 2, ground := Go.Ground.data }], guard := none }) (v := ?_) rfl (by kernel_rfl) (by kernel_rfl) (by kernel_rfl) (by kernel_rfl) (fun _ _ _ h => h) (Or.inl ⟨by rfl, ?_⟩) (by assumption) ?_
  rotate_left
  · (intro w hSw; (try dsimp only at hSw); go_split_ands; go_simp; try (with_reducible rfl))
  simp only [Act.put, List.setIfInBounds_toArray, List.set_cons_zero, List.set_cons_succ]
  refine wpAnyL_take 5 (oi := { dst := some 20, op := Go.Op.fieldAddr 83 (Go.Operand.tmp 19) 1, type := 0, pos := "buddy.go:42", after := #[{ on := 4, ground := Go.Ground.data }], guard := none }) (v := ?_) rfl (by kernel_rfl) (by kernel_rfl) (by kernel_rfl) (by kernel_rfl) (fun _ _ _ h => h) (Or.inl ⟨by rfl, ?_⟩) (by assumption) ?_
  rotate_left
  · (intro w hSw; (try dsimp only at hSw); go_split_ands; go_simp; try (with_reducible rfl))
  simp only [Act.put, List.setIfInBounds_toArray, List.set_cons_zero, List.set_cons_succ]
  refine wpAnyL_take 6 (oi := { dst := some 21, op := Go.Op.indexAddr 81 (Go.Operand.tmp 20) (Go.Operand.tmp 18), type := 0, pos := "buddy.go:42", after := #[{ on := 5, ground := Go.Ground.data }, { on := 3, ground := Go.Ground.data }], guard := none }) (v := ?_) rfl (by kernel_rfl) (by kernel_rfl) (by kernel_rfl) (by kernel_rfl) (fun _ _ _ h => h) (Or.inl ⟨by rfl, ?_⟩) (by assumption) ?_
  rotate_left
  · (intro w hSw; (try dsimp only at hSw); go_split_ands; go_simp; try (with_reducible rfl))
  simp only [Act.put, List.setIfInBounds_toArray, List.set_cons_zero, List.set_cons_succ]
  refine wpAnyL_take 7 (oi := { dst := some 22, op := Go.Op.load 33 (Go.Operand.tmp 21), type := 33, pos := "buddy.go:42", after := #[{ on := 6, ground := Go.Ground.data }], guard := none }) (v := ?_) rfl (by kernel_rfl) (by kernel_rfl) (by kernel_rfl) (by kernel_rfl) (fun _ _ _ h => h) (Or.inl ⟨by rfl, ?_⟩) (by assumption) ?_
  rotate_left
  · (intro w hSw; (try dsimp only at hSw); go_split_ands; go_simp; try (with_reducible rfl))
  simp only [Act.put, List.setIfInBounds_toArray, List.set_cons_zero, List.set_cons_succ]
  refine wpAnyL_take 8 (oi := { dst := some 23, op := Go.Op.move (Go.Operand.tmp 6), type := 3, pos := "buddy.go:42", after := #[], guard := none }) (v := ?_) rfl (by kernel_rfl) (by kernel_rfl) (by kernel_rfl) (by kernel_rfl) (fun _ _ _ h => h) (Or.inl ⟨by rfl, ?_⟩) (by assumption) ?_
  rotate_left
  · (intro w hSw; (try dsimp only at hSw); go_split_ands; go_simp; try (with_reducible rfl))
  simp only [Act.put, List.setIfInBounds_toArray, List.set_cons_zero, List.set_cons_succ]
  refine wpAnyL_take 9 (oi := { dst := some 24, op := Go.Op.move (Go.Operand.tmp 1), type := 3, pos := "buddy.go:42", after := #[], guard := none }) (v := ?_) rfl (by kernel_rfl) (by kernel_rfl) (by kernel_rfl) (by kernel_rfl) (fun _ _ _ h => h) (Or.inl ⟨by rfl, ?_⟩) (by assumption) ?_
  rotate_left
  · (intro w hSw; (try dsimp only at hSw); go_split_ands; go_simp; try (with_reducible rfl))
  simp only [Act.put, List.setIfInBounds_toArray, List.set_cons_zero, List.set_cons_succ]
  refine wpAnyL_ready (rs := [10, 12]) (by kernel_rfl) (by simp) ?_
  refine AllReadyL.cons (o := { dst := some 25, op := Go.Op.buildSlice 33 1 #[(0, Go.Operand.tmp 24)], type := 33, pos := "buddy.go:42", after := #[{ on := 9, ground := Go.Ground.data }], guard := none }) rfl (fun K hK => ?_) ?_
  · go_simp
    refine hK.out _ _ (.inr (by (refine keepS2 (S := fun z => (Value.slice av X.length cv).ownBlock = some z) ?_ hpl (fun e => HNP.out p e rfl) c1 fz; (repeat (first | exact HK26.out | exact Keep.refl _ _ | refine Keep.drew ?_ | refine Keep.drewN ?_ _ | refine Keep.alloc ?_ _ | refine Keep.setNew ?_ (by omega) _)); done))) (fun hS10 => ?_)
    replace hS10 := hS10.resolve_left (by decide)
    try simp only [Act.put, List.setIfInBounds_toArray, List.set_cons_zero, List.set_cons_succ]
    refine wpAnyL_ready (rs := [11, 12]) (by kernel_rfl) (by simp) ?_
    refine AllReadyL.cons (o := { dst := some 26, op := Go.Op.call { callee := Go.Callee.value (Go.Operand.func 62), args := #[Go.Operand.tmp 22, Go.Operand.tmp 23, Go.Operand.tmp 25], argTypes := #[33, 3, 33] }, type := 33, pos := "buddy.go:42", after := #[{ on := 7, ground := Go.Ground.data }, { on := 8, ground := Go.Ground.data }, { on := 10, ground := Go.Ground.data }], guard := none }) rfl (fun K hK => ?_) ?_
    · go_simp
      go_at_call 62
      refine (ins_any B m w1.heap.size (.slice av X.length cv) X (c : Int) _ (by simp; omega) (HO1.out.keep (S := fun _ => False) (by (repeat (first | exact Keep.refl _ _ | exact Keep.refl _ _ | refine Keep.drew ?_ | refine Keep.drewN ?_ _ | refine Keep.alloc ?_ _ | refine Keep.setNew ?_ (by omega) _)); done) (fun _ _ => id)) hml HL2.out (boxI w1.drew (c : Int)) (fun e => by have := (HO1.out.lt _ e).2; omega)).mono ?_
      rintro e w26 ⟨v26, rfl, ho26, hk26, hf26⟩
      obtain ⟨a26, c26, rfl, -⟩ := ho26.slice
      have HK26 : Hid (Keep (fun z => (Value.slice av X.length cv).ownBlock = some z) w1 w26) := Keep.trans (by (repeat (first | exact Keep.refl _ _ | exact Keep.refl _ _ | refine Keep.drew ?_ | refine Keep.drewN ?_ _ | refine Keep.alloc ?_ _ | refine Keep.setNew ?_ (by omega) _)); done) hk26
      have HO26 := Lib.hid ho26
      have HF26 : Hid (∀ x, (Value.slice a26 (insAt X m (c : Int)).length c26).ownBlock = some x → (Value.slice av X.length cv).ownBlock = some x ∨ w1.heap.size ≤ x) := fun x hx => (hf26 x hx).imp id (fun h => by simp at h; omega)
      clear ho26 hk26 hf26
      refine hK.out _ _ (.inr (by (refine keepS2 (S := fun z => (Value.slice av X.length cv).ownBlock = some z) ?_ hpl (fun e => HNP.out p e rfl) c1 fz; (repeat (first | exact HK26.out | exact Keep.refl _ _ | refine Keep.drew ?_ | refine Keep.drewN ?_ _ | refine Keep.alloc ?_ _ | refine Keep.setNew ?_ (by omega) _)); done))) (fun hS11 => ?_)
      replace hS11 := hS11.resolve_left (by decide)
      try simp only [Act.put, List.setIfInBounds_toArray, List.set_cons_zero, List.set_cons_succ]
      refine wpAnyL_ready (rs := [12]) (by kernel_rfl) (by simp) ?_
      refine AllReadyL.cons (o := { dst := some 27, op := Go.Op.nilCheck (Go.Operand.tmp 15), type := 0, pos := "buddy.go:42", after := #[{ on := 0, ground := Go.Ground.data }], guard := none }) rfl (fun K hK => ?_) ?_
      · go_simp
        refine hK.out _ _ (.inr (by (refine keepS2 (S := fun z => (Value.slice av X.length cv).ownBlock = some z) ?_ hpl (fun e => HNP.out p e rfl) c1 fz; (repeat (first | exact HK26.out | exact Keep.refl _ _ | refine Keep.drew ?_ | refine Keep.drewN ?_ _ | refine Keep.alloc ?_ _ | refine Keep.setNew ?_ (by omega) _)); done))) (fun hS12 => ?_)
        replace hS12 := hS12.resolve_left (by decide)
        try simp only [Act.put, List.setIfInBounds_toArray, List.set_cons_zero, List.set_cons_succ]
        refine wpAnyL_ready (rs := [13]) (by kernel_rfl) (by simp) ?_
        refine AllReadyL.cons (o := { dst := some 28, op := Go.Op.fieldAddr 83 (Go.Operand.tmp 27) 1, type := 0, pos := "buddy.go:42", after := #[{ on := 12, ground := Go.Ground.data }], guard := none }) rfl (fun K hK => ?_) ?_
        · go_simp
          refine hK.out _ _ (.inr (by (refine keepS2 (S := fun z => (Value.slice av X.length cv).ownBlock = some z) ?_ hpl (fun e => HNP.out p e rfl) c1 fz; (repeat (first | exact HK26.out | exact Keep.refl _ _ | refine Keep.drew ?_ | refine Keep.drewN ?_ _ | refine Keep.alloc ?_ _ | refine Keep.setNew ?_ (by omega) _)); done))) (fun hS13 => ?_)
          replace hS13 := hS13.resolve_left (by decide)
          try simp only [Act.put, List.setIfInBounds_toArray, List.set_cons_zero, List.set_cons_succ]
          refine wpAnyL_take 14 (oi := { dst := some 29, op := Go.Op.indexAddr 81 (Go.Operand.tmp 28) (Go.Operand.tmp 16), type := 0, pos := "buddy.go:42", after := #[{ on := 13, ground := Go.Ground.data }, { on := 1, ground := Go.Ground.data }, { on := 0, ground := Go.Ground.phase }, { on := 1, ground := Go.Ground.phase }, { on := 2, ground := Go.Ground.phase }, { on := 3, ground := Go.Ground.phase }, { on := 4, ground := Go.Ground.phase }, { on := 5, ground := Go.Ground.phase }, { on := 6, ground := Go.Ground.phase }, { on := 7, ground := Go.Ground.phase }, { on := 8, ground := Go.Ground.phase }, { on := 9, ground := Go.Ground.phase }, { on := 10, ground := Go.Ground.phase }, { on := 11, ground := Go.Ground.phase }], guard := none }) (v := ?_) rfl (by kernel_rfl) (by kernel_rfl) (by kernel_rfl) (by kernel_rfl) (fun _ _ _ h => h) (Or.inl ⟨by rfl, ?_⟩) (by assumption) ?_
          rotate_left
          · (intro w hSw; (try dsimp only at hSw); go_split_ands; go_simp; try (with_reducible rfl))
          simp only [Act.put, List.setIfInBounds_toArray, List.set_cons_zero, List.set_cons_succ]
          refine wpAnyL_ready (rs := [15]) (by kernel_rfl) (by simp) ?_
          refine AllReadyL.cons (o := { dst := none, op := Go.Op.store 33 (Go.Operand.tmp 29) (Go.Operand.tmp 26), type := 0, pos := "buddy.go:42", after := #[{ on := 14, ground := Go.Ground.data }, { on := 11, ground := Go.Ground.data }, { on := 11, ground := Go.Ground.chain }, { on := 0, ground := Go.Ground.phase }, { on := 1, ground := Go.Ground.phase }, { on := 2, ground := Go.Ground.phase }, { on := 3, ground := Go.Ground.phase }, { on := 4, ground := Go.Ground.phase }, { on := 5, ground := Go.Ground.phase }, { on := 6, ground := Go.Ground.phase }, { on := 7, ground := Go.Ground.phase }, { on := 8, ground := Go.Ground.phase }, { on := 9, ground := Go.Ground.phase }, { on := 10, ground := Go.Ground.phase }, { on := 11, ground := Go.Ground.phase }], guard := none }) rfl (fun K hK => ?_) ?_
          · go_simp
            refine hK.out _ _ (.inl rfl) (fun _ => ?_)
            try simp only [Act.put, List.setIfInBounds_toArray, List.set_cons_zero, List.set_cons_succ]
            refine wpAnyL_done (by kernel_rfl) ?_ _
            refine NoPanic.normal ?_
            have hq := repB_set (S' := putS S k c) HR1.out hk (by rw [HVK.out]; exact HK26.out) (by rw [HLP.out, HX.out]; exact HO26.out) (fun j hj a => put_other S hj a) (by rw [HVK.out]; exact HF26.out)
            have HQ := Lib.hid hq
            clear hq
            go_wp2
            go_end0
            refine ⟨rfl, ⟨_, HQ.out.1, fun j hj x hx => ?_⟩, ?_⟩
            · by_cases e : j = k
              · subst e
                rw [if_pos rfl] at hx
                rcases HF26.out x hx with h' | h'
                · exact .inl (HG.out j hj x (by rw [HVK.out]; exact h'))
                · exact .inr (Nat.le_trans HK1.out.size h')
              · rw [if_neg e] at hx
                exact .inl (HG.out j hj x hx)
            · exact (HK1.out.mono (fun _ _ h => h.elim)).trans (HQ.out.2.mono fun z _ hz => hz.imp id (fun h => HG.out k hk z h))
          exact AllReadyL.nil
        exact AllReadyL.nil
      exact AllReadyL.nil
    refine AllReadyL.cons (o := { dst := some 27, op := Go.Op.nilCheck (Go.Operand.tmp 15), type := 0, pos := "buddy.go:42", after := #[{ on := 0, ground := Go.Ground.data }], guard := none }) rfl (fun K hK => ?_) ?_
    · go_simp
      refine hK.out _ _ (.inr (by (refine keepS2 (S := fun z => (Value.slice av X.length cv).ownBlock = some z) ?_ hpl (fun e => HNP.out p e rfl) c1 fz; (repeat (first | exact HK26.out | exact Keep.refl _ _ | refine Keep.drew ?_ | refine Keep.drewN ?_ _ | refine Keep.alloc ?_ _ | refine Keep.setNew ?_ (by omega) _)); done))) (fun hS11 => ?_)
      replace hS11 := hS11.resolve_left (by decide)
      try simp only [Act.put, List.setIfInBounds_toArray, List.set_cons_zero, List.set_cons_succ]
      refine wpAnyL_ready (rs := [11, 13]) (by kernel_rfl) (by simp) ?_
      refine AllReadyL.cons (o := { dst := some 26, op := Go.Op.call { callee := Go.Callee.value (Go.Operand.func 62), args := #[Go.Operand.tmp 22, Go.Operand.tmp 23, Go.Operand.tmp 25], argTypes := #[33, 3, 33] }, type := 33, pos := "buddy.go:42", after := #[{ on := 7, ground := Go.Ground.data }, { on := 8, ground := Go.Ground.data }, { on := 10, ground := Go.Ground.data }], guard := none }) rfl (fun K hK => ?_) ?_
      · go_simp
        go_at_call 62
        refine (ins_any B m w1.heap.size (.slice av X.length cv) X (c : Int) _ (by simp; omega) (HO1.out.keep (S := fun _ => False) (by (repeat (first | exact Keep.refl _ _ | exact Keep.refl _ _ | refine Keep.drew ?_ | refine Keep.drewN ?_ _ | refine Keep.alloc ?_ _ | refine Keep.setNew ?_ (by omega) _)); done) (fun _ _ => id)) hml HL2.out (boxI w1.drew (c : Int)) (fun e => by have := (HO1.out.lt _ e).2; omega)).mono ?_
        rintro e w26 ⟨v26, rfl, ho26, hk26, hf26⟩
        obtain ⟨a26, c26, rfl, -⟩ := ho26.slice
        have HK26 : Hid (Keep (fun z => (Value.slice av X.length cv).ownBlock = some z) w1 w26) := Keep.trans (by (repeat (first | exact Keep.refl _ _ | exact Keep.refl _ _ | refine Keep.drew ?_ | refine Keep.drewN ?_ _ | refine Keep.alloc ?_ _ | refine Keep.setNew ?_ (by omega) _)); done) hk26
        have HO26 := Lib.hid ho26
        have HF26 : Hid (∀ x, (Value.slice a26 (insAt X m (c : Int)).length c26).ownBlock = some x → (Value.slice av X.length cv).ownBlock = some x ∨ w1.heap.size ≤ x) := fun x hx => (hf26 x hx).imp id (fun h => by simp at h; omega)
        clear ho26 hk26 hf26
        refine hK.out _ _ (.inr (by (refine keepS2 (S := fun z => (Value.slice av X.length cv).ownBlock = some z) ?_ hpl (fun e => HNP.out p e rfl) c1 fz; (repeat (first | exact HK26.out | exact Keep.refl _ _ | refine Keep.drew ?_ | refine Keep.drewN ?_ _ | refine Keep.alloc ?_ _ | refine Keep.setNew ?_ (by omega) _)); done))) (fun hS12 => ?_)
        replace hS12 := hS12.resolve_left (by decide)
        try simp only [Act.put, List.setIfInBounds_toArray, List.set_cons_zero, List.set_cons_succ]
        refine wpAnyL_ready (rs := [13]) (by kernel_rfl) (by simp) ?_
        refine AllReadyL.cons (o := { dst := some 28, op := Go.Op.fieldAddr 83 (Go.Operand.tmp 27) 1, type := 0, pos := "buddy.go:42", after := #[{ on := 12, ground := Go.Ground.data }], guard := none }) rfl (fun K hK => ?_) ?_
        · go_simp
          refine hK.out _ _ (.inr (by (refine keepS2 (S := fun z => (Value.slice av X.length cv).ownBlock = some z) ?_ hpl (fun e => HNP.out p e rfl) c1 fz; (repeat (first | exact HK26.out | exact Keep.refl _ _ | refine Keep.drew ?_ | refine Keep.drewN ?_ _ | refine Keep.alloc ?_ _ | refine Keep.setNew ?_ (by omega) _)); done))) (fun hS13 => ?_)
          replace hS13 := hS13.resolve_left (by decide)
          try simp only [Act.put, List.setIfInBounds_toArray, List.set_cons_zero, List.set_cons_succ]
          refine wpAnyL_take 14 (oi := { dst := some 29, op := Go.Op.indexAddr 81 (Go.Operand.tmp 28) (Go.Operand.tmp 16), type := 0, pos := "buddy.go:42", after := #[{ on := 13, ground := Go.Ground.data }, { on := 1, ground := Go.Ground.data }, { on := 0, ground := Go.Ground.phase }, { on := 1, ground := Go.Ground.phase }, { on := 2, ground := Go.Ground.phase }, { on := 3, ground := Go.Ground.phase }, { on := 4, ground := Go.Ground.phase }, { on := 5, ground := Go.Ground.phase }, { on := 6, ground := Go.Ground.phase }, { on := 7, ground := Go.Ground.phase }, { on := 8, ground := Go.Ground.phase }, { on := 9, ground := Go.Ground.phase }, { on := 10, ground := Go.Ground.phase }, { on := 11, ground := Go.Ground.phase }], guard := none }) (v := ?_) rfl (by kernel_rfl) (by kernel_rfl) (by kernel_rfl) (by kernel_rfl) (fun _ _ _ h => h) (Or.inl ⟨by rfl, ?_⟩) (by assumption) ?_
          rotate_left
          · (intro w hSw; (try dsimp only at hSw); go_split_ands; go_simp; try (with_reducible rfl))
          simp only [Act.put, List.setIfInBounds_toArray, List.set_cons_zero, List.set_cons_succ]
          refine wpAnyL_ready (rs := [15]) (by kernel_rfl) (by simp) ?_
          refine AllReadyL.cons (o := { dst := none, op := Go.Op.store 33 (Go.Operand.tmp 29) (Go.Operand.tmp 26), type := 0, pos := "buddy.go:42", after := #[{ on := 14, ground := Go.Ground.data }, { on := 11, ground := Go.Ground.data }, { on := 11, ground := Go.Ground.chain }, { on := 0, ground := Go.Ground.phase }, { on := 1, ground := Go.Ground.phase }, { on := 2, ground := Go.Ground.phase }, { on := 3, ground := Go.Ground.phase }, { on := 4, ground := Go.Ground.phase }, { on := 5, ground := Go.Ground.phase }, { on := 6, ground := Go.Ground.phase }, { on := 7, ground := Go.Ground.phase }, { on := 8, ground := Go.Ground.phase }, { on := 9, ground := Go.Ground.phase }, { on := 10, ground := Go.Ground.phase }, { on := 11, ground := Go.Ground.phase }], guard := none }) rfl (fun K hK => ?_) ?_
          · go_simp
            refine hK.out _ _ (.inl rfl) (fun _ => ?_)
            try simp only [Act.put, List.setIfInBounds_toArray, List.set_cons_zero, List.set_cons_succ]
            refine wpAnyL_done (by kernel_rfl) ?_ _
            refine NoPanic.normal ?_
            have hq := repB_set (S' := putS S k c) HR1.out hk (by rw [HVK.out]; exact HK26.out) (by rw [HLP.out, HX.out]; exact HO26.out) (fun j hj a => put_other S hj a) (by rw [HVK.out]; exact HF26.out)
            have HQ := Lib.hid hq
            clear hq
            go_wp2
            go_end0
            refine ⟨rfl, ⟨_, HQ.out.1, fun j hj x hx => ?_⟩, ?_⟩
            · by_cases e : j = k
              · subst e
                rw [if_pos rfl] at hx
                rcases HF26.out x hx with h' | h'
                · exact .inl (HG.out j hj x (by rw [HVK.out]; exact h'))
                · exact .inr (Nat.le_trans HK1.out.size h')
              · rw [if_neg e] at hx
                exact .inl (HG.out j hj x hx)
            · exact (HK1.out.mono (fun _ _ h => h.elim)).trans (HQ.out.2.mono fun z _ hz => hz.imp id (fun h => HG.out k hk z h))
          exact AllReadyL.nil
        exact AllReadyL.nil
      refine AllReadyL.cons (o := { dst := some 28, op := Go.Op.fieldAddr 83 (Go.Operand.tmp 27) 1, type := 0, pos := "buddy.go:42", after := #[{ on := 12, ground := Go.Ground.data }], guard := none }) rfl (fun K hK => ?_) ?_
      · go_simp
        refine hK.out _ _ (.inr (by (refine keepS2 (S := fun z => (Value.slice av X.length cv).ownBlock = some z) ?_ hpl (fun e => HNP.out p e rfl) c1 fz; (repeat (first | exact HK26.out | exact Keep.refl _ _ | refine Keep.drew ?_ | refine Keep.drewN ?_ _ | refine Keep.alloc ?_ _ | refine Keep.setNew ?_ (by omega) _)); done))) (fun hS12 => ?_)
        replace hS12 := hS12.resolve_left (by decide)
        try simp only [Act.put, List.setIfInBounds_toArray, List.set_cons_zero, List.set_cons_succ]
        refine wpAnyL_ready (rs := [11]) (by kernel_rfl) (by simp) ?_
        refine AllReadyL.cons (o := { dst := some 26, op := Go.Op.call { callee := Go.Callee.value (Go.Operand.func 62), args := #[Go.Operand.tmp 22, Go.Operand.tmp 23, Go.Operand.tmp 25], argTypes := #[33, 3, 33] }, type := 33, pos := "buddy.go:42", after := #[{ on := 7, ground := Go.Ground.data }, { on := 8, ground := Go.Ground.data }, { on := 10, ground := Go.Ground.data }], guard := none }) rfl (fun K hK => ?_) ?_
        · go_simp
          go_at_call 62
          refine (ins_any B m w1.heap.size (.slice av X.length cv) X (c : Int) _ (by simp; omega) (HO1.out.keep (S := fun _ => False) (by (repeat (first | exact Keep.refl _ _ | exact Keep.refl _ _ | refine Keep.drew ?_ | refine Keep.drewN ?_ _ | refine Keep.alloc ?_ _ | refine Keep.setNew ?_ (by omega) _)); done) (fun _ _ => id)) hml HL2.out (boxI w1.drew (c : Int)) (fun e => by have := (HO1.out.lt _ e).2; omega)).mono ?_
          rintro e w26 ⟨v26, rfl, ho26, hk26, hf26⟩
          obtain ⟨a26, c26, rfl, -⟩ := ho26.slice
          have HK26 : Hid (Keep (fun z => (Value.slice av X.length cv).ownBlock = some z) w1 w26) := Keep.trans (by (repeat (first | exact Keep.refl _ _ | exact Keep.refl _ _ | refine Keep.drew ?_ | refine Keep.drewN ?_ _ | refine Keep.alloc ?_ _ | refine Keep.setNew ?_ (by omega) _)); done) hk26
          have HO26 := Lib.hid ho26
          have HF26 : Hid (∀ x, (Value.slice a26 (insAt X m (c : Int)).length c26).ownBlock = some x → (Value.slice av X.length cv).ownBlock = some x ∨ w1.heap.size ≤ x) := fun x hx => (hf26 x hx).imp id (fun h => by simp at h; omega)
          clear ho26 hk26 hf26
          refine hK.out _ _ (.inr (by (refine keepS2 (S := fun z => (Value.slice av X.length cv).ownBlock = some z) ?_ hpl (fun e => HNP.out p e rfl) c1 fz; (repeat (first | exact HK26.out | exact Keep.refl _ _ | refine Keep.drew ?_ | refine Keep.drewN ?_ _ | refine Keep.alloc ?_ _ | refine Keep.setNew ?_ (by omega) _)); done))) (fun hS13 => ?_)
          replace hS13 := hS13.resolve_left (by decide)
          try simp only [Act.put, List.setIfInBounds_toArray, List.set_cons_zero, List.set_cons_succ]
          refine wpAnyL_take 14 (oi := { dst := some 29, op := Go.Op.indexAddr 81 (Go.Operand.tmp 28) (Go.Operand.tmp 16), type := 0, pos := "buddy.go:42", after := #[{ on := 13, ground := Go.Ground.data }, { on := 1, ground := Go.Ground.data }, { on := 0, ground := Go.Ground.phase }, { on := 1, ground := Go.Ground.phase }, { on := 2, ground := Go.Ground.phase }, { on := 3, ground := Go.Ground.phase }, { on := 4, ground := Go.Ground.phase }, { on := 5, ground := Go.Ground.phase }, { on := 6, ground := Go.Ground.phase }, { on := 7, ground := Go.Ground.phase }, { on := 8, ground := Go.Ground.phase }, { on := 9, ground := Go.Ground.phase }, { on := 10, ground := Go.Ground.phase }, { on := 11, ground := Go.Ground.phase }], guard := none }) (v := ?_) rfl (by kernel_rfl) (by kernel_rfl) (by kernel_rfl) (by kernel_rfl) (fun _ _ _ h => h) (Or.inl ⟨by rfl, ?_⟩) (by assumption) ?_
          rotate_left
          · (intro w hSw; (try dsimp only at hSw); go_split_ands; go_simp; try (with_reducible rfl))
          simp only [Act.put, List.setIfInBounds_toArray, List.set_cons_zero, List.set_cons_succ]
          refine wpAnyL_ready (rs := [15]) (by kernel_rfl) (by simp) ?_
          refine AllReadyL.cons (o := { dst := none, op := Go.Op.store 33 (Go.Operand.tmp 29) (Go.Operand.tmp 26), type := 0, pos := "buddy.go:42", after := #[{ on := 14, ground := Go.Ground.data }, { on := 11, ground := Go.Ground.data }, { on := 11, ground := Go.Ground.chain }, { on := 0, ground := Go.Ground.phase }, { on := 1, ground := Go.Ground.phase }, { on := 2, ground := Go.Ground.phase }, { on := 3, ground := Go.Ground.phase }, { on := 4, ground := Go.Ground.phase }, { on := 5, ground := Go.Ground.phase }, { on := 6, ground := Go.Ground.phase }, { on := 7, ground := Go.Ground.phase }, { on := 8, ground := Go.Ground.phase }, { on := 9, ground := Go.Ground.phase }, { on := 10, ground := Go.Ground.phase }, { on := 11, ground := Go.Ground.phase }], guard := none }) rfl (fun K hK => ?_) ?_
          · go_simp
            refine hK.out _ _ (.inl rfl) (fun _ => ?_)
            try simp only [Act.put, List.setIfInBounds_toArray, List.set_cons_zero, List.set_cons_succ]
            refine wpAnyL_done (by kernel_rfl) ?_ _
            refine NoPanic.normal ?_
            have hq := repB_set (S' := putS S k c) HR1.out hk (by rw [HVK.out]; exact HK26.out) (by rw [HLP.out, HX.out]; exact HO26.out) (fun j hj a => put_other S hj a) (by rw [HVK.out]; exact HF26.out)
            have HQ := Lib.hid hq
            clear hq
            go_wp2
            go_end0
            refine ⟨rfl, ⟨_, HQ.out.1, fun j hj x hx => ?_⟩, ?_⟩
            · by_cases e : j = k
              · subst e
                rw [if_pos rfl] at hx
                rcases HF26.out x hx with h' | h'
                · exact .inl (HG.out j hj x (by rw [HVK.out]; exact h'))
                · exact .inr (Nat.le_trans HK1.out.size h')
              · rw [if_neg e] at hx
                exact .inl (HG.out j hj x hx)
            · exact (HK1.out.mono (fun _ _ h => h.elim)).trans (HQ.out.2.mono fun z _ hz => hz.imp id (fun h => HG.out k hk z h))
          exact AllReadyL.nil
        exact AllReadyL.nil
      exact AllReadyL.nil
    exact AllReadyL.nil
  refine AllReadyL.cons (o := { dst := some 27, op := Go.Op.nilCheck (Go.Operand.tmp 15), type := 0, pos := "buddy.go:42", after := #[{ on := 0, ground := Go.Ground.data }], guard := none }) rfl (fun K hK => ?_) ?_
  · go_simp
    refine hK.out _ _ (.inr (by (refine keepS2 (S := fun z => (Value.slice av X.length cv).ownBlock = some z) ?_ hpl (fun e => HNP.out p e rfl) c1 fz; (repeat (first | exact HK26.out | exact Keep.refl _ _ | refine Keep.drew ?_ | refine Keep.drewN ?_ _ | refine Keep.alloc ?_ _ | refine Keep.setNew ?_ (by omega) _)); done))) (fun hS10 => ?_)
    replace hS10 := hS10.resolve_left (by decide)
    try simp only [Act.put, List.setIfInBounds_toArray, List.set_cons_zero, List.set_cons_succ]
    refine wpAnyL_ready (rs := [10, 13]) (by kernel_rfl) (by simp) ?_
    refine AllReadyL.cons (o := { dst := some 25, op := Go.Op.buildSlice 33 1 #[(0, Go.Operand.tmp 24)], type := 33, pos := "buddy.go:42", after := #[{ on := 9, ground := Go.Ground.data }], guard := none }) rfl (fun K hK => ?_) ?_
    · go_simp
      refine hK.out _ _ (.inr (by (refine keepS2 (S := fun z => (Value.slice av X.length cv).ownBlock = some z) ?_ hpl (fun e => HNP.out p e rfl) c1 fz; (repeat (first | exact HK26.out | exact Keep.refl _ _ | refine Keep.drew ?_ | refine Keep.drewN ?_ _ | refine Keep.alloc ?_ _ | refine Keep.setNew ?_ (by omega) _)); done))) (fun hS11 => ?_)
      replace hS11 := hS11.resolve_left (by decide)
      try simp only [Act.put, List.setIfInBounds_toArray, List.set_cons_zero, List.set_cons_succ]
      refine wpAnyL_ready (rs := [11, 13]) (by kernel_rfl) (by simp) ?_
      refine AllReadyL.cons (o := { dst := some 26, op := Go.Op.call { callee := Go.Callee.value (Go.Operand.func 62), args := #[Go.Operand.tmp 22, Go.Operand.tmp 23, Go.Operand.tmp 25], argTypes := #[33, 3, 33] }, type := 33, pos := "buddy.go:42", after := #[{ on := 7, ground := Go.Ground.data }, { on := 8, ground := Go.Ground.data }, { on := 10, ground := Go.Ground.data }], guard := none }) rfl (fun K hK => ?_) ?_
      · go_simp
        go_at_call 62
        refine (ins_any B m w1.heap.size (.slice av X.length cv) X (c : Int) _ (by simp; omega) (HO1.out.keep (S := fun _ => False) (by (repeat (first | exact Keep.refl _ _ | exact Keep.refl _ _ | refine Keep.drew ?_ | refine Keep.drewN ?_ _ | refine Keep.alloc ?_ _ | refine Keep.setNew ?_ (by omega) _)); done) (fun _ _ => id)) hml HL2.out (boxI w1.drew (c : Int)) (fun e => by have := (HO1.out.lt _ e).2; omega)).mono ?_
        rintro e w26 ⟨v26, rfl, ho26, hk26, hf26⟩
        obtain ⟨a26, c26, rfl, -⟩ := ho26.slice
        have HK26 : Hid (Keep (fun z => (Value.slice av X.length cv).ownBlock = some z) w1 w26) := Keep.trans (by (repeat (first | exact Keep.refl _ _ | exact Keep.refl _ _ | refine Keep.drew ?_ | refine Keep.drewN ?_ _ | refine Keep.alloc ?_ _ | refine Keep.setNew ?_ (by omega) _)); done) hk26
        have HO26 := Lib.hid ho26
        have HF26 : Hid (∀ x, (Value.slice a26 (insAt X m (c : Int)).length c26).ownBlock = some x → (Value.slice av X.length cv).ownBlock = some x ∨ w1.heap.size ≤ x) := fun x hx => (hf26 x hx).imp id (fun h => by simp at h; omega)
        clear ho26 hk26 hf26
        refine hK.out _ _ (.inr (by (refine keepS2 (S := fun z => (Value.slice av X.length cv).ownBlock = some z) ?_ hpl (fun e => HNP.out p e rfl) c1 fz; (repeat (first | exact HK26.out | exact Keep.refl _ _ | refine Keep.drew ?_ | refine Keep.drewN ?_ _ | refine Keep.alloc ?_ _ | refine Keep.setNew ?_ (by omega) _)); done))) (fun hS12 => ?_)
        replace hS12 := hS12.resolve_left (by decide)
        try simp only [Act.put, List.setIfInBounds_toArray, List.set_cons_zero, List.set_cons_succ]
        refine wpAnyL_ready (rs := [13]) (by kernel_rfl) (by simp) ?_
        refine AllReadyL.cons (o := { dst := some 28, op := Go.Op.fieldAddr 83 (Go.Operand.tmp 27) 1, type := 0, pos := "buddy.go:42", after := #[{ on := 12, ground := Go.Ground.data }], guard := none }) rfl (fun K hK => ?_) ?_
        · go_simp
          refine hK.out _ _ (.inr (by (refine keepS2 (S := fun z => (Value.slice av X.length cv).ownBlock = some z) ?_ hpl (fun e => HNP.out p e rfl) c1 fz; (repeat (first | exact HK26.out | exact Keep.refl _ _ | refine Keep.drew ?_ | refine Keep.drewN ?_ _ | refine Keep.alloc ?_ _ | refine Keep.setNew ?_ (by omega) _)); done))) (fun hS13 => ?_)
          replace hS13 := hS13.resolve_left (by decide)
          try simp only [Act.put, List.setIfInBounds_toArray, List.set_cons_zero, List.set_cons_succ]
          refine wpAnyL_take 14 (oi := { dst := some 29, op := Go.Op.indexAddr 81 (Go.Operand.tmp 28) (Go.Operand.tmp 16), type := 0, pos := "buddy.go:42", after := #[{ on := 13, ground := Go.Ground.data }, { on := 1, ground := Go.Ground.data }, { on := 0, ground := Go.Ground.phase }, { on := 1, ground := Go.Ground.phase }, { on := 2, ground := Go.Ground.phase }, { on := 3, ground := Go.Ground.phase }, { on := 4, ground := Go.Ground.phase }, { on := 5, ground := Go.Ground.phase }, { on := 6, ground := Go.Ground.phase }, { on := 7, ground := Go.Ground.phase }, { on := 8, ground := Go.Ground.phase }, { on := 9, ground := Go.Ground.phase }, { on := 10, ground := Go.Ground.phase }, { on := 11, ground := Go.Ground.phase }], guard := none }) (v := ?_) rfl (by kernel_rfl) (by kernel_rfl) (by kernel_rfl) (by kernel_rfl) (fun _ _ _ h => h) (Or.inl ⟨by rfl, ?_⟩) (by assumption) ?_
          rotate_left
          · (intro w hSw; (try dsimp only at hSw); go_split_ands; go_simp; try (with_reducible rfl))
          simp only [Act.put, List.setIfInBounds_toArray, List.set_cons_zero, List.set_cons_succ]
          refine wpAnyL_ready (rs := [15]) (by kernel_rfl) (by simp) ?_
          refine AllReadyL.cons (o := { dst := none, op := Go.Op.store 33 (Go.Operand.tmp 29) (Go.Operand.tmp 26), type := 0, pos := "buddy.go:42", after := #[{ on := 14, ground := Go.Ground.data }, { on := 11, ground := Go.Ground.data }, { on := 11, ground := Go.Ground.chain }, { on := 0, ground := Go.Ground.phase }, { on := 1, ground := Go.Ground.phase }, { on := 2, ground := Go.Ground.phase }, { on := 3, ground := Go.Ground.phase }, { on := 4, ground := Go.Ground.phase }, { on := 5, ground := Go.Ground.phase }, { on := 6, ground := Go.Ground.phase }, { on := 7, ground := Go.Ground.phase }, { on := 8, ground := Go.Ground.phase }, { on := 9, ground := Go.Ground.phase }, { on := 10, ground := Go.Ground.phase }, { on := 11, ground := Go.Ground.phase }], guard := none }) rfl (fun K hK => ?_) ?_
          · go_simp
            refine hK.out _ _ (.inl rfl) (fun _ => ?_)
            try simp only [Act.put, List.setIfInBounds_toArray, List.set_cons_zero, List.set_cons_succ]
            refine wpAnyL_done (by kernel_rfl) ?_ _
            refine NoPanic.normal ?_
            have hq := repB_set (S' := putS S k c) HR1.out hk (by rw [HVK.out]; exact HK26.out) (by rw [HLP.out, HX.out]; exact HO26.out) (fun j hj a => put_other S hj a) (by rw [HVK.out]; exact HF26.out)
            have HQ := Lib.hid hq
            clear hq
            go_wp2
            go_end0
            refine ⟨rfl, ⟨_, HQ.out.1, fun j hj x hx => ?_⟩, ?_⟩
            · by_cases e : j = k
              · subst e
                rw [if_pos rfl] at hx
                rcases HF26.out x hx with h' | h'
                · exact .inl (HG.out j hj x (by rw [HVK.out]; exact h'))
                · exact .inr (Nat.le_trans HK1.out.size h')
              · rw [if_neg e] at hx
                exact .inl (HG.out j hj x hx)
            · exact (HK1.out.mono (fun _ _ h => h.elim)).trans (HQ.out.2.mono fun z _ hz => hz.imp id (fun h => HG.out k hk z h))
          exact AllReadyL.nil
        exact AllReadyL.nil
      refine AllReadyL.cons (o := { dst := some 28, op := Go.Op.fieldAddr 83 (Go.Operand.tmp 27) 1, type := 0, pos := "buddy.go:42", after := #[{ on := 12, ground := Go.Ground.data }], guard := none }) rfl (fun K hK => ?_) ?_
      · go_simp
        refine hK.out _ _ (.inr (by (refine keepS2 (S := fun z => (Value.slice av X.length cv).ownBlock = some z) ?_ hpl (fun e => HNP.out p e rfl) c1 fz; (repeat (first | exact HK26.out | exact Keep.refl _ _ | refine Keep.drew ?_ | refine Keep.drewN ?_ _ | refine Keep.alloc ?_ _ | refine Keep.setNew ?_ (by omega) _)); done))) (fun hS12 => ?_)
        replace hS12 := hS12.resolve_left (by decide)
        try simp only [Act.put, List.setIfInBounds_toArray, List.set_cons_zero, List.set_cons_succ]
        refine wpAnyL_ready (rs := [11]) (by kernel_rfl) (by simp) ?_
        refine AllReadyL.cons (o := { dst := some 26, op := Go.Op.call { callee := Go.Callee.value (Go.Operand.func 62), args := #[Go.Operand.tmp 22, Go.Operand.tmp 23, Go.Operand.tmp 25], argTypes := #[33, 3, 33] }, type := 33, pos := "buddy.go:42", after := #[{ on := 7, ground := Go.Ground.data }, { on := 8, ground := Go.Ground.data }, { on := 10, ground := Go.Ground.data }], guard := none }) rfl (fun K hK => ?_) ?_
        · go_simp
          go_at_call 62
          refine (ins_any B m w1.heap.size (.slice av X.length cv) X (c : Int) _ (by simp; omega) (HO1.out.keep (S := fun _ => False) (by (repeat (first | exact Keep.refl _ _ | exact Keep.refl _ _ | refine Keep.drew ?_ | refine Keep.drewN ?_ _ | refine Keep.alloc ?_ _ | refine Keep.setNew ?_ (by omega) _)); done) (fun _ _ => id)) hml HL2.out (boxI w1.drew (c : Int)) (fun e => by have := (HO1.out.lt _ e).2; omega)).mono ?_
          rintro e w26 ⟨v26, rfl, ho26, hk26, hf26⟩
          obtain ⟨a26, c26, rfl, -⟩ := ho26.slice
          have HK26 : Hid (Keep (fun z => (Value.slice av X.length cv).ownBlock = some z) w1 w26) := Keep.trans (by (repeat (first | exact Keep.refl _ _ | exact Keep.refl _ _ | refine Keep.drew ?_ | refine Keep.drewN ?_ _ | refine Keep.alloc ?_ _ | refine Keep.setNew ?_ (by omega) _)); done) hk26
          have HO26 := Lib.hid ho26
          have HF26 : Hid (∀ x, (Value.slice a26 (insAt X m (c : Int)).length c26).ownBlock = some x → (Value.slice av X.length cv).ownBlock = some x ∨ w1.heap.size ≤ x) := fun x hx => (hf26 x hx).imp id (fun h => by simp at h; omega)
          clear ho26 hk26 hf26
          refine hK.out _ _ (.inr (by (refine keepS2 (S := fun z => (Value.slice av X.length cv).ownBlock = some z) ?_ hpl (fun e => HNP.out p e rfl) c1 fz; (repeat (first | exact HK26.out | exact Keep.refl _ _ | refine Keep.drew ?_ | refine Keep.drewN ?_ _ | refine Keep.alloc ?_ _ | refine Keep.setNew ?_ (by omega) _)); done))) (fun hS13 => ?_)
          replace hS13 := hS13.resolve_left (by decide)
          try simp only [Act.put, List.setIfInBounds_toArray, List.set_cons_zero, List.set_cons_succ]
          refine wpAnyL_take 14 (oi := { dst := some 29, op := Go.Op.indexAddr 81 (Go.Operand.tmp 28) (Go.Operand.tmp 16), type := 0, pos := "buddy.go:42", after := #[{ on := 13, ground := Go.Ground.data }, { on := 1, ground := Go.Ground.data }, { on := 0, ground := Go.Ground.phase }, { on := 1, ground := Go.Ground.phase }, { on := 2, ground := Go.Ground.phase }, { on := 3, ground := Go.Ground.phase }, { on := 4, ground := Go.Ground.phase }, { on := 5, ground := Go.Ground.phase }, { on := 6, ground := Go.Ground.phase }, { on := 7, ground := Go.Ground.phase }, { on := 8, ground := Go.Ground.phase }, { on := 9, ground := Go.Ground.phase }, { on := 10, ground := Go.Ground.phase }, { on := 11, ground := Go.Ground.phase }], guard := none }) (v := ?_) rfl (by kernel_rfl) (by kernel_rfl) (by kernel_rfl) (by kernel_rfl) (fun _ _ _ h => h) (Or.inl ⟨by rfl, ?_⟩) (by assumption) ?_
          rotate_left
          · (intro w hSw; (try dsimp only at hSw); go_split_ands; go_simp; try (with_reducible rfl))
          simp only [Act.put, List.setIfInBounds_toArray, List.set_cons_zero, List.set_cons_succ]
          refine wpAnyL_ready (rs := [15]) (by kernel_rfl) (by simp) ?_
          refine AllReadyL.cons (o := { dst := none, op := Go.Op.store 33 (Go.Operand.tmp 29) (Go.Operand.tmp 26), type := 0, pos := "buddy.go:42", after := #[{ on := 14, ground := Go.Ground.data }, { on := 11, ground := Go.Ground.data }, { on := 11, ground := Go.Ground.chain }, { on := 0, ground := Go.Ground.phase }, { on := 1, ground := Go.Ground.phase }, { on := 2, ground := Go.Ground.phase }, { on := 3, ground := Go.Ground.phase }, { on := 4, ground := Go.Ground.phase }, { on := 5, ground := Go.Ground.phase }, { on := 6, ground := Go.Ground.phase }, { on := 7, ground := Go.Ground.phase }, { on := 8, ground := Go.Ground.phase }, { on := 9, ground := Go.Ground.phase }, { on := 10, ground := Go.Ground.phase }, { on := 11, ground := Go.Ground.phase }], guard := none }) rfl (fun K hK => ?_) ?_
          · go_simp
            refine hK.out _ _ (.inl rfl) (fun _ => ?_)
            try simp only [Act.put, List.setIfInBounds_toArray, List.set_cons_zero, List.set_cons_succ]
            refine wpAnyL_done (by kernel_rfl) ?_ _
            refine NoPanic.normal ?_
            have hq := repB_set (S' := putS S k c) HR1.out hk (by rw [HVK.out]; exact HK26.out) (by rw [HLP.out, HX.out]; exact HO26.out) (fun j hj a => put_other S hj a) (by rw [HVK.out]; exact HF26.out)
            have HQ := Lib.hid hq
            clear hq
            go_wp2
            go_end0
            refine ⟨rfl, ⟨_, HQ.out.1, fun j hj x hx => ?_⟩, ?_⟩
            · by_cases e : j = k
              · subst e
                rw [if_pos rfl] at hx
                rcases HF26.out x hx with h' | h'
                · exact .inl (HG.out j hj x (by rw [HVK.out]; exact h'))
                · exact .inr (Nat.le_trans HK1.out.size h')
              · rw [if_neg e] at hx
                exact .inl (HG.out j hj x hx)
            · exact (HK1.out.mono (fun _ _ h => h.elim)).trans (HQ.out.2.mono fun z _ hz => hz.imp id (fun h => HG.out k hk z h))
          exact AllReadyL.nil
        exact AllReadyL.nil
      exact AllReadyL.nil
    refine AllReadyL.cons (o := { dst := some 28, op := Go.Op.fieldAddr 83 (Go.Operand.tmp 27) 1, type := 0, pos := "buddy.go:42", after := #[{ on := 12, ground := Go.Ground.data }], guard := none }) rfl (fun K hK => ?_) ?_
    · go_simp
      refine hK.out _ _ (.inr (by (refine keepS2 (S := fun z => (Value.slice av X.length cv).ownBlock = some z) ?_ hpl (fun e => HNP.out p e rfl) c1 fz; (repeat (first | exact HK26.out | exact Keep.refl _ _ | refine Keep.drew ?_ | refine Keep.drewN ?_ _ | refine Keep.alloc ?_ _ | refine Keep.setNew ?_ (by omega) _)); done))) (fun hS11 => ?_)
      replace hS11 := hS11.resolve_left (by decide)
      try simp only [Act.put, List.setIfInBounds_toArray, List.set_cons_zero, List.set_cons_succ]
      refine wpAnyL_ready (rs := [10]) (by kernel_rfl) (by simp) ?_
      refine AllReadyL.cons (o := { dst := some 25, op := Go.Op.buildSlice 33 1 #[(0, Go.Operand.tmp 24)], type := 33, pos := "buddy.go:42", after := #[{ on := 9, ground := Go.Ground.data }], guard := none }) rfl (fun K hK => ?_) ?_
      · go_simp
        refine hK.out _ _ (.inr (by (refine keepS2 (S := fun z => (Value.slice av X.length cv).ownBlock = some z) ?_ hpl (fun e => HNP.out p e rfl) c1 fz; (repeat (first | exact HK26.out | exact Keep.refl _ _ | refine Keep.drew ?_ | refine Keep.drewN ?_ _ | refine Keep.alloc ?_ _ | refine Keep.setNew ?_ (by omega) _)); done))) (fun hS12 => ?_)
        replace hS12 := hS12.resolve_left (by decide)
        try simp only [Act.put, List.setIfInBounds_toArray, List.set_cons_zero, List.set_cons_succ]
        refine wpAnyL_ready (rs := [11]) (by kernel_rfl) (by simp) ?_
        refine AllReadyL.cons (o := { dst := some 26, op := Go.Op.call { callee := Go.Callee.value (Go.Operand.func 62), args := #[Go.Operand.tmp 22, Go.Operand.tmp 23, Go.Operand.tmp 25], argTypes := #[33, 3, 33] }, type := 33, pos := "buddy.go:42", after := #[{ on := 7, ground := Go.Ground.data }, { on := 8, ground := Go.Ground.data }, { on := 10, ground := Go.Ground.data }], guard := none }) rfl (fun K hK => ?_) ?_
        · go_simp
          go_at_call 62
          refine (ins_any B m w1.heap.size (.slice av X.length cv) X (c : Int) _ (by simp; omega) (HO1.out.keep (S := fun _ => False) (by (repeat (first | exact Keep.refl _ _ | exact Keep.refl _ _ | refine Keep.drew ?_ | refine Keep.drewN ?_ _ | refine Keep.alloc ?_ _ | refine Keep.setNew ?_ (by omega) _)); done) (fun _ _ => id)) hml HL2.out (boxI w1.drew (c : Int)) (fun e => by have := (HO1.out.lt _ e).2; omega)).mono ?_
          rintro e w26 ⟨v26, rfl, ho26, hk26, hf26⟩
          obtain ⟨a26, c26, rfl, -⟩ := ho26.slice
          have HK26 : Hid (Keep (fun z => (Value.slice av X.length cv).ownBlock = some z) w1 w26) := Keep.trans (by (repeat (first | exact Keep.refl _ _ | exact Keep.refl _ _ | refine Keep.drew ?_ | refine Keep.drewN ?_ _ | refine Keep.alloc ?_ _ | refine Keep.setNew ?_ (by omega) _)); done) hk26
          have HO26 := Lib.hid ho26
          have HF26 : Hid (∀ x, (Value.slice a26 (insAt X m (c : Int)).length c26).ownBlock = some x → (Value.slice av X.length cv).ownBlock = some x ∨ w1.heap.size ≤ x) := fun x hx => (hf26 x hx).imp id (fun h => by simp at h; omega)
          clear ho26 hk26 hf26
          refine hK.out _ _ (.inr (by (refine keepS2 (S := fun z => (Value.slice av X.length cv).ownBlock = some z) ?_ hpl (fun e => HNP.out p e rfl) c1 fz; (repeat (first | exact HK26.out | exact Keep.refl _ _ | refine Keep.drew ?_ | refine Keep.drewN ?_ _ | refine Keep.alloc ?_ _ | refine Keep.setNew ?_ (by omega) _)); done))) (fun hS13 => ?_)
          replace hS13 := hS13.resolve_left (by decide)
          try simp only [Act.put, List.setIfInBounds_toArray, List.set_cons_zero, List.set_cons_succ]
          refine wpAnyL_take 14 (oi := { dst := some 29, op := Go.Op.indexAddr 81 (Go.Operand.tmp 28) (Go.Operand.tmp 16), type := 0, pos := "buddy.go:42", after := #[{ on := 13, ground := Go.Ground.data }, { on := 1, ground := Go.Ground.data }, { on := 0, ground := Go.Ground.phase }, { on := 1, ground := Go.Ground.phase }, { on := 2, ground := Go.Ground.phase }, { on := 3, ground := Go.Ground.phase }, { on := 4, ground := Go.Ground.phase }, { on := 5, ground := Go.Ground.phase }, { on := 6, ground := Go.Ground.phase }, { on := 7, ground := Go.Ground.phase }, { on := 8, ground := Go.Ground.phase }, { on := 9, ground := Go.Ground.phase }, { on := 10, ground := Go.Ground.phase }, { on := 11, ground := Go.Ground.phase }], guard := none }) (v := ?_) rfl (by kernel_rfl) (by kernel_rfl) (by kernel_rfl) (by kernel_rfl) (fun _ _ _ h => h) (Or.inl ⟨by rfl, ?_⟩) (by assumption) ?_
          rotate_left
          · (intro w hSw; (try dsimp only at hSw); go_split_ands; go_simp; try (with_reducible rfl))
          simp only [Act.put, List.setIfInBounds_toArray, List.set_cons_zero, List.set_cons_succ]
          refine wpAnyL_ready (rs := [15]) (by kernel_rfl) (by simp) ?_
          refine AllReadyL.cons (o := { dst := none, op := Go.Op.store 33 (Go.Operand.tmp 29) (Go.Operand.tmp 26), type := 0, pos := "buddy.go:42", after := #[{ on := 14, ground := Go.Ground.data }, { on := 11, ground := Go.Ground.data }, { on := 11, ground := Go.Ground.chain }, { on := 0, ground := Go.Ground.phase }, { on := 1, ground := Go.Ground.phase }, { on := 2, ground := Go.Ground.phase }, { on := 3, ground := Go.Ground.phase }, { on := 4, ground := Go.Ground.phase }, { on := 5, ground := Go.Ground.phase }, { on := 6, ground := Go.Ground.phase }, { on := 7, ground := Go.Ground.phase }, { on := 8, ground := Go.Ground.phase }, { on := 9, ground := Go.Ground.phase }, { on := 10, ground := Go.Ground.phase }, { on := 11, ground := Go.Ground.phase }], guard := none }) rfl (fun K hK => ?_) ?_
          · go_simp
            refine hK.out _ _ (.inl rfl) (fun _ => ?_)
            try simp only [Act.put, List.setIfInBounds_toArray, List.set_cons_zero, List.set_cons_succ]
            refine wpAnyL_done (by kernel_rfl) ?_ _
            refine NoPanic.normal ?_
            have hq := repB_set (S' := putS S k c) HR1.out hk (by rw [HVK.out]; exact HK26.out) (by rw [HLP.out, HX.out]; exact HO26.out) (fun j hj a => put_other S hj a) (by rw [HVK.out]; exact HF26.out)
            have HQ := Lib.hid hq
            clear hq
            go_wp2
            go_end0
            refine ⟨rfl, ⟨_, HQ.out.1, fun j hj x hx => ?_⟩, ?_⟩
            · by_cases e : j = k
              · subst e
                rw [if_pos rfl] at hx
                rcases HF26.out x hx with h' | h'
                · exact .inl (HG.out j hj x (by rw [HVK.out]; exact h'))
                · exact .inr (Nat.le_trans HK1.out.size h')
              · rw [if_neg e] at hx
                exact .inl (HG.out j hj x hx)
            · exact (HK1.out.mono (fun _ _ h => h.elim)).trans (HQ.out.2.mono fun z _ hz => hz.imp id (fun h => HG.out k hk z h))
          exact AllReadyL.nil
        exact AllReadyL.nil
      exact AllReadyL.nil
    exact AllReadyL.nil
  exact AllReadyL.nil

set_option maxRecDepth 100000 in
set_option maxHeartbeats 4000000 in
theorem drop_any {w : World} {B p n k c : Nat} {S : Nat → Nat → Bool} {fr : Int} {G : Nat → Prop} (hB : B ≤ w.heap.size) (h : BS w B p n S fr G) (hk : k ≤ 8) (hc : c < n) (hs : S k c = true) :
    Calls Try.prog 55 #[.pointer (some ⟨p, 0, none⟩), .int .i64 (c : Int), .int .i64 (k : Int)] w (PutC w B p n (dropS S k c) fr G) := by
  obtain ⟨V, hR, hG⟩ := h
  have HR := Lib.hid hR
  have HG := Lib.hid hG
  have HCT := Lib.hid (li_count S n k c hc)
  have HLP := Lib.hid (li_drop S n k c hc hs)
  have hfd : (li S n k).contains (c : Int) = true := by rw [li_contains, hs, decide_eq_true hc]; rfl
  have hlen := li_len S n k
  have hn := hR.hn
  have hkz : (0 : Int) ≤ (k : Int) := Int.natCast_nonneg k
  have hk9 : (k : Int) < 9 := by omega
  obtain ⟨m, hm⟩ : ∃ m, (ls S c k).length = m := ⟨_, rfl⟩
  have hml : m < (li S n k).length := by
    unfold li
    rw [List.length_map, ls_split S n k c hc, hs, ← hm]
    simp
  rw [hm] at HCT HLP
  have HPL := Lib.hid (place_any (c : Int) hR hk)
  rw [HCT.out, hfd] at HPL
  have hml2 : m ≤ 2000 := by omega
  have hwm : IntKind.i64.wrap ((m : Int) + 1) = (m : Int) + 1 := IntWalk.i64_in _ (by omega)
  clear hR hG hm hfd hlen
  go_enter Try.func55, Try.ntmps55
  go_wp2_with (go_at_call 54; refine HPL.out.mono ?_; rintro e w1 ⟨rfl, hk1⟩; have HK1 := Lib.hid hk1; clear hk1)
  have HR1 := Lib.hid (HR.out.keep0 HK1.out)
  have hpl := block_lt HR1.out.hp
  have c1 := HR1.out.cV hk
  have fz := HR1.out.fz (1 + k)
  obtain ⟨vk, hvk⟩ : ∃ v, V k = v := ⟨_, rfl⟩
  have HVK := Lib.hid hvk
  have HO1 : Hid (OwnL inE w1 B 3 vk (li S n k)) := by rw [← hvk]; exact HR1.out.hv k hk
  have HNP : Hid (∀ x, vk.ownBlock = some x → x ≠ p) := by rw [← hvk]; exact HR1.out.np hk
  rw [hvk] at c1
  obtain ⟨X, hX⟩ : ∃ X, li S n k = X := ⟨_, rfl⟩
  have HX := Lib.hid hX
  rw [hX] at HO1 hml
  obtain ⟨gv, cv, hav, -⟩ := HO1.out.form (by intro e; rw [e] at hml; simp at hml)
  clear hvk hX
  subst hav
  refine wp_region_noPanic ?_
  refine wp_region_L (fun w' => w'.cell? ⟨p, 1 + k, none⟩ = some (.slice (some ⟨gv, 0, none⟩) X.length cv) ∧ w'.frozen? ⟨p, 1 + k, none⟩ = false) 15 (by kernel_rfl) (by (refine keepS2 (S := fun z => (Value.slice (some ⟨gv, 0, none⟩) X.length cv).ownBlock = some z) ?_ hpl (fun e => HNP.out p e rfl) c1 fz; (repeat (first | exact HK27.out | exact Keep.refl _ _ | refine Keep.drew ?_ | refine Keep.drewN ?_ _ | refine Keep.alloc ?_ _ | refine Keep.setNew ?_ (by omega) _)); done)) (fun hS0 => ?_)
  refine wpAnyL_take 0 (oi := { dst := some 16, op := Go.Op.move (Go.Operand.tmp 0), type := 67, pos := "buddy.go:47", after := #[], guard := none }) (v := ?_) rfl (by kernel_rfl) (by kernel_rfl) (by kernel_rfl) (by kernel_rfl) (fun _ _ _ h => h) (Or.inl ⟨by rfl, ?_⟩) (by assumption) ?_
  rotate_left
  · (intro w hSw; (try dsimp only at hSw); go_split_ands; go_simp; try (with_reducible rfl))
  simp only [Act.put, List.setIfInBounds_toArray, List.set_cons_zero, List.set_cons_succ]
  refine wpAnyL_take 1 (oi := { dst := some 17, op := Go.Op.move (Go.Operand.tmp 2), type := 3, pos := "buddy.go:47", after := #[], guard := none }) (v := ?_) rfl (by kernel_rfl) (by kernel_rfl) (by kernel_rfl) (by kernel_rfl) (fun _ _ _ h => h) (Or.inl ⟨by rfl, ?_⟩) (by assumption) ?_
  rotate_left
  · (intro w hSw; (try dsimp only at hSw); go_split_ands; go_simp; try (with_reducible rfl))
  simp only [Act.put, List.setIfInBounds_toArray, List.set_cons_zero, List.set_cons_succ]
  refine wpAnyL_take 2 (oi := { dst := some 18, op := Go.Op.move (Go.Operand.tmp 0), type := 67, pos := "buddy.go:47", after := #[], guard := none }) (v := ?_) rfl (by kernel_rfl) (by kernel_rfl) (by kernel_rfl) (by kernel_rfl) (fun _ _ _ h => h) (Or.inl ⟨by rfl, ?_⟩) (by assumption) ?_
  rotate_left
  · (intro w hSw; (try dsimp only at hSw); go_split_ands; go_simp; try (with_reducible rfl))
  simp only [Act.put, List.setIfInBounds_toArray, List.set_cons_zero, List.set_cons_succ]
  refine wpAnyL_take 3 (oi := { dst := some 19, op := Go.Op.move (Go.Operand.tmp 2), type := 3, pos := "buddy.go:47", after := #[], guard := none }) (v := ?_) rfl (by kernel_rfl) (by kernel_rfl) (by kernel_rfl) (by kernel_rfl) (fun _ _ _ h => h) (Or.inl ⟨by rfl, ?_⟩) (by assumption) ?_
  rotate_left
  · (intro w hSw; (try dsimp only at hSw); go_split_ands; go_simp; try (with_reducible rfl))
  simp only [Act.put, List.setIfInBounds_toArray, List.set_cons_zero, List.set_cons_succ]
  refine wpAnyL_take 4 (oi := { dst := some 20, op := Go.Op.nilCheck (Go.Operand.tmp 18), type := 0, pos := "buddy.go:47", after := #[{ on := 2, ground := Go.Ground.data }], guard := none }) (v := ?_) rfl (by kernel_rfl) (by kernel_rfl) (by kernel_rfl) (by kernel_rfl) (fun _ _ _ h => h) (Or.inl ⟨by rfl, ?_⟩) (by assumption) ?_
  rotate_left
  · (intro w hSw; (try dsimp only at hSw); go_split_ands; go_simp; try (with_reducible rfl))
  simp only [Act.put, List.setIfInBounds_toArray, List.set_cons_zero, List.set_cons_succ]
  refine wpAnyL_take 5 (oi := { dst := some 21, op := Go.Op.fieldAddr 83 (Go.Operand.tmp 20) 1, type := 0, pos := "buddy.go:47", after := #[{ on := 4, ground := Go.Ground.data }], guard := none }) (v := ?_) rfl (by kernel_rfl) (by kernel_rfl) (by kernel_rfl) (by kernel_rfl) (fun _ _ _ h => h) (Or.inl ⟨by rfl, ?_⟩) (by assumption) ?_
  rotate_left
  · (intro w hSw; (try dsimp only at hSw); go_split_ands; go_simp; try (with_reducible rfl))
  simp only [Act.put, List.setIfInBounds_toArray, List.set_cons_zero, List.set_cons_succ]
  refine wpAnyL_take 6 (oi := { dst := some 22, op := Go.Op.indexAddr 81 (Go.Operand.tmp 21) (Go.Operand.tmp 19), type := 0, pos := "buddy.go:47", after := #[{ on := 5, ground := Go.Ground.data }, { on := 3, ground := Go.Ground.data }], guard := none }) (v := ?_) rfl (by kernel_rfl) (by kernel_rfl) (by kernel_rfl) (by kernel_rfl) (fun _ _ _ h => h) (Or.inl ⟨by rfl, ?_⟩) (by assumption) ?_
  rotate_left
  · (intro w hSw; (try dsimp only at hSw); go_split_ands; go_simp; try (with_reducible rfl))
  simp only [Act.put, List.setIfInBounds_toArray, List.set_cons_zero, List.set_cons_succ]
  refine wpAnyL_take 7 (oi := { dst := some 23, op := Go.Op.load 33 (Go.Operand.tmp 22), type := 33, pos := "buddy.go:47", after := #[{ on := 6, ground := Go.Ground.data }], guard := none }) (v := ?_) rfl (by kernel_rfl) (by kernel_rfl) (by kernel_rfl) (by kernel_rfl) (fun _ _ _ h => h) (Or.inl ⟨by rfl, ?_⟩) (by assumption) ?_
  rotate_left
  · (intro w hSw; (try dsimp only at hSw); go_split_ands; go_simp; try (with_reducible rfl))
  simp only [Act.put, List.setIfInBounds_toArray, List.set_cons_zero, List.set_cons_succ]
  refine wpAnyL_take 8 (oi := { dst := some 24, op := Go.Op.move (Go.Operand.tmp 6), type := 3, pos := "buddy.go:47", after := #[], guard := none }) (v := ?_) rfl (by kernel_rfl) (by kernel_rfl) (by kernel_rfl) (by kernel_rfl) (fun _ _ _ h => h) (Or.inl ⟨by rfl, ?_⟩) (by assumption) ?_
  rotate_left
  · (intro w hSw; (try dsimp only at hSw); go_split_ands; go_simp; try (with_reducible rfl))
  simp only [Act.put, List.setIfInBounds_toArray, List.set_cons_zero, List.set_cons_succ]
  refine wpAnyL_take 9 (oi := { dst := some 25, op := Go.Op.move (Go.Operand.tmp 6), type := 3, pos := "buddy.go:47", after := #[], guard := none }) (v := ?_) rfl (by kernel_rfl) (by kernel_rfl) (by kernel_rfl) (by kernel_rfl) (fun _ _ _ h => h) (Or.inl ⟨by rfl, ?_⟩) (by assumption) ?_
  rotate_left
  · (intro w hSw; (try dsimp only at hSw); go_split_ands; go_simp; try (with_reducible rfl))
  simp only [Act.put, List.setIfInBounds_toArray, List.set_cons_zero, List.set_cons_succ]
  refine wpAnyL_take 10 (oi := { dst := some 26, op := Go.Op.binOp Go.BinOp.add 3 (Go.Operand.tmp 25) (Go.Operand.const (Go.Value.int Go.IntKind.i64 1)) 3, type := 3, pos := "buddy.go:47", after := #[{ on := 9, ground := Go.Ground.data }], guard := none }) (v := ?_) rfl (by kernel_rfl) (by kernel_rfl) (by kernel_rfl) (by kernel_rfl) (fun _ _ _ h => h) (Or.inl ⟨by rfl, ?_⟩) (by assumption) ?_
  rotate_left
  · (intro w hSw; (try dsimp only at hSw); go_split_ands; go_simp; try (with_reducible rfl))
  simp only [Act.put, List.setIfInBounds_toArray, List.set_cons_zero, List.set_cons_succ]
  refine wpAnyL_ready (rs := [11, 12]) (by kernel_rfl) (by simp) ?_
  refine AllReadyL.cons (o := { dst := some 27, op := Go.Op.call { callee := Go.Callee.value (Go.Operand.func 61), args := #[Go.Operand.tmp 23, Go.Operand.tmp 24, Go.Operand.tmp 26], argTypes := #[33, 3, 3] }, type := 33, pos := "buddy.go:47", after := #[{ on := 7, ground := Go.Ground.data }, { on := 8, ground := Go.Ground.data }, { on := 10, ground := Go.Ground.data }], guard := none }) rfl (fun K hK => ?_) ?_
  · go_simp
    go_at_call 61
    refine (del_any B gv cv m X _ (HO1.out.keep (S := fun _ => False) (by (repeat (first | exact Keep.refl _ _ | exact Keep.refl _ _ | refine Keep.drew ?_ | refine Keep.drewN ?_ _ | refine Keep.alloc ?_ _ | refine Keep.setNew ?_ (by omega) _)); done) (fun _ _ => id)) hml).mono ?_
    rintro e w27 ⟨rfl, ho27, hk27⟩
    have HK27 : Hid (Keep (fun z => (Value.slice (some ⟨gv, 0, none⟩) X.length cv).ownBlock = some z) w1 w27) := Keep.trans (by (repeat (first | exact Keep.refl _ _ | exact Keep.refl _ _ | refine Keep.drew ?_ | refine Keep.drewN ?_ _ | refine Keep.alloc ?_ _ | refine Keep.setNew ?_ (by omega) _)); done) (hk27.mono fun z _ hz => by subst hz; rfl)
    have HO27 := Lib.hid ho27
    clear ho27 hk27
    refine hK.out _ _ (.inr (by (refine keepS2 (S := fun z => (Value.slice (some ⟨gv, 0, none⟩) X.length cv).ownBlock = some z) ?_ hpl (fun e => HNP.out p e rfl) c1 fz; (repeat (first | exact HK27.out | exact Keep.refl _ _ | refine Keep.drew ?_ | refine Keep.drewN ?_ _ | refine Keep.alloc ?_ _ | refine Keep.setNew ?_ (by omega) _)); done))) (fun hS11 => ?_)
    replace hS11 := hS11.resolve_left (by decide)
    try simp only [Act.put, List.setIfInBounds_toArray, List.set_cons_zero, List.set_cons_succ]
    refine wpAnyL_ready (rs := [12]) (by kernel_rfl) (by simp) ?_
    refine AllReadyL.cons (o := { dst := some 28, op := Go.Op.nilCheck (Go.Operand.tmp 16), type := 0, pos := "buddy.go:47", after := #[{ on := 0, ground := Go.Ground.data }], guard := none }) rfl (fun K hK => ?_) ?_
    · go_simp
      refine hK.out _ _ (.inr (by (refine keepS2 (S := fun z => (Value.slice (some ⟨gv, 0, none⟩) X.length cv).ownBlock = some z) ?_ hpl (fun e => HNP.out p e rfl) c1 fz; (repeat (first | exact HK27.out | exact Keep.refl _ _ | refine Keep.drew ?_ | refine Keep.drewN ?_ _ | refine Keep.alloc ?_ _ | refine Keep.setNew ?_ (by omega) _)); done))) (fun hS12 => ?_)
      replace hS12 := hS12.resolve_left (by decide)
      try simp only [Act.put, List.setIfInBounds_toArray, List.set_cons_zero, List.set_cons_succ]
      refine wpAnyL_ready (rs := [13]) (by kernel_rfl) (by simp) ?_
      refine AllReadyL.cons (o := { dst := some 29, op := Go.Op.fieldAddr 83 (Go.Operand.tmp 28) 1, type := 0, pos := "buddy.go:47", after := #[{ on := 12, ground := Go.Ground.data }], guard := none }) rfl (fun K hK => ?_) ?_
      · go_simp
        refine hK.out _ _ (.inr (by (refine keepS2 (S := fun z => (Value.slice (some ⟨gv, 0, none⟩) X.length cv).ownBlock = some z) ?_ hpl (fun e => HNP.out p e rfl) c1 fz; (repeat (first | exact HK27.out | exact Keep.refl _ _ | refine Keep.drew ?_ | refine Keep.drewN ?_ _ | refine Keep.alloc ?_ _ | refine Keep.setNew ?_ (by omega) _)); done))) (fun hS13 => ?_)
        replace hS13 := hS13.resolve_left (by decide)
        try simp only [Act.put, List.setIfInBounds_toArray, List.set_cons_zero, List.set_cons_succ]
        refine wpAnyL_take 14 (oi := { dst := some 30, op := Go.Op.indexAddr 81 (Go.Operand.tmp 29) (Go.Operand.tmp 17), type := 0, pos := "buddy.go:47", after := #[{ on := 13, ground := Go.Ground.data }, { on := 1, ground := Go.Ground.data }, { on := 0, ground := Go.Ground.phase }, { on := 1, ground := Go.Ground.phase }, { on := 2, ground := Go.Ground.phase }, { on := 3, ground := Go.Ground.phase }, { on := 4, ground := Go.Ground.phase }, { on := 5, ground := Go.Ground.phase }, { on := 6, ground := Go.Ground.phase }, { on := 7, ground := Go.Ground.phase }, { on := 8, ground := Go.Ground.phase }, { on := 9, ground := Go.Ground.phase }, { on := 10, ground := Go.Ground.phase }, { on := 11, ground := Go.Ground.phase }], guard := none }) (v := ?_) rfl (by kernel_rfl) (by kernel_rfl) (by kernel_rfl) (by kernel_rfl) (fun _ _ _ h => h) (Or.inl ⟨by rfl, ?_⟩) (by assumption) ?_
        rotate_left
        · (intro w hSw; (try dsimp only at hSw); go_split_ands; go_simp; try (with_reducible rfl))
        simp only [Act.put, List.setIfInBounds_toArray, List.set_cons_zero, List.set_cons_succ]
        refine wpAnyL_ready (rs := [15]) (by kernel_rfl) (by simp) ?_
        refine AllReadyL.cons (o := { dst := none, op := Go.Op.store 33 (Go.Operand.tmp 30) (Go.Operand.tmp 27), type := 0, pos := "buddy.go:47", after := #[{ on := 14, ground := Go.Ground.data }, { on := 11, ground := Go.Ground.data }, { on := 11, ground := Go.Ground.chain }, { on := 0, ground := Go.Ground.phase }, { on := 1, ground := Go.Ground.phase }, { on := 2, ground := Go.Ground.phase }, { on := 3, ground := Go.Ground.phase }, { on := 4, ground := Go.Ground.phase }, { on := 5, ground := Go.Ground.phase }, { on := 6, ground := Go.Ground.phase }, { on := 7, ground := Go.Ground.phase }, { on := 8, ground := Go.Ground.phase }, { on := 9, ground := Go.Ground.phase }, { on := 10, ground := Go.Ground.phase }, { on := 11, ground := Go.Ground.phase }], guard := none }) rfl (fun K hK => ?_) ?_
        · go_simp
          refine hK.out _ _ (.inl rfl) (fun _ => ?_)
          try simp only [Act.put, List.setIfInBounds_toArray, List.set_cons_zero, List.set_cons_succ]
          refine wpAnyL_done (by kernel_rfl) ?_ _
          refine NoPanic.normal ?_
          have hq := repB_set (S' := dropS S k c) HR1.out hk (by rw [HVK.out]; exact HK27.out) (by rw [HLP.out, HX.out]; exact HO27.out) (fun j hj a => drop_other S hj a) (by rw [HVK.out]; exact fun x hx => .inl hx)
          have HQ := Lib.hid hq
          clear hq
          go_wp2
          go_end0
          refine ⟨rfl, ⟨_, HQ.out.1, fun j hj x hx => ?_⟩, ?_⟩
          · by_cases e : j = k
            · subst e
              rw [if_pos rfl] at hx
              exact .inl (HG.out j hj x (by rw [HVK.out]; exact hx))
            · rw [if_neg e] at hx
              exact .inl (HG.out j hj x hx)
          · exact (HK1.out.mono (fun _ _ h => h.elim)).trans (HQ.out.2.mono fun z _ hz => hz.imp id (fun h => HG.out k hk z h))
        exact AllReadyL.nil
      exact AllReadyL.nil
    exact AllReadyL.nil
  refine AllReadyL.cons (o := { dst := some 28, op := Go.Op.nilCheck (Go.Operand.tmp 16), type := 0, pos := "buddy.go:47", after := #[{ on := 0, ground := Go.Ground.data }], guard := none }) rfl (fun K hK => ?_) ?_
  · go_simp
    refine hK.out _ _ (.inr (by (refine keepS2 (S := fun z => (Value.slice (some ⟨gv, 0, none⟩) X.length cv).ownBlock = some z) ?_ hpl (fun e => HNP.out p e rfl) c1 fz; (repeat (first | exact HK27.out | exact Keep.refl _ _ | refine Keep.drew ?_ | refine Keep.drewN ?_ _ | refine Keep.alloc ?_ _ | refine Keep.setNew ?_ (by omega) _)); done))) (fun hS11 => ?_)
    replace hS11 := hS11.resolve_left (by decide)
    try simp only [Act.put, List.setIfInBounds_toArray, List.set_cons_zero, List.set_cons_succ]
    refine wpAnyL_ready (rs := [11, 13]) (by kernel_rfl) (by simp) ?_
    refine AllReadyL.cons (o := { dst := some 27, op := Go.Op.call { callee := Go.Callee.value (Go.Operand.func 61), args := #[Go.Operand.tmp 23, Go.Operand.tmp 24, Go.Operand.tmp 26], argTypes := #[33, 3, 3] }, type := 33, pos := "buddy.go:47", after := #[{ on := 7, ground := Go.Ground.data }, { on := 8, ground := Go.Ground.data }, { on := 10, ground := Go.Ground.data }], guard := none }) rfl (fun K hK => ?_) ?_
    · go_simp
      go_at_call 61
      refine (del_any B gv cv m X _ (HO1.out.keep (S := fun _ => False) (by (repeat (first | exact Keep.refl _ _ | exact Keep.refl _ _ | refine Keep.drew ?_ | refine Keep.drewN ?_ _ | refine Keep.alloc ?_ _ | refine Keep.setNew ?_ (by omega) _)); done) (fun _ _ => id)) hml).mono ?_
      rintro e w27 ⟨rfl, ho27, hk27⟩
      have HK27 : Hid (Keep (fun z => (Value.slice (some ⟨gv, 0, none⟩) X.length cv).ownBlock = some z) w1 w27) := Keep.trans (by (repeat (first | exact Keep.refl _ _ | exact Keep.refl _ _ | refine Keep.drew ?_ | refine Keep.drewN ?_ _ | refine Keep.alloc ?_ _ | refine Keep.setNew ?_ (by omega) _)); done) (hk27.mono fun z _ hz => by subst hz; rfl)
      have HO27 := Lib.hid ho27
      clear ho27 hk27
      refine hK.out _ _ (.inr (by (refine keepS2 (S := fun z => (Value.slice (some ⟨gv, 0, none⟩) X.length cv).ownBlock = some z) ?_ hpl (fun e => HNP.out p e rfl) c1 fz; (repeat (first | exact HK27.out | exact Keep.refl _ _ | refine Keep.drew ?_ | refine Keep.drewN ?_ _ | refine Keep.alloc ?_ _ | refine Keep.setNew ?_ (by omega) _)); done))) (fun hS12 => ?_)
      replace hS12 := hS12.resolve_left (by decide)
      try simp only [Act.put, List.setIfInBounds_toArray, List.set_cons_zero, List.set_cons_succ]
      refine wpAnyL_ready (rs := [13]) (by kernel_rfl) (by simp) ?_
      refine AllReadyL.cons (o := { dst := some 29, op := Go.Op.fieldAddr 83 (Go.Operand.tmp 28) 1, type := 0, pos := "buddy.go:47", after := #[{ on := 12, ground := Go.Ground.data }], guard := none }) rfl (fun K hK => ?_) ?_
      · go_simp
        refine hK.out _ _ (.inr (by (refine keepS2 (S := fun z => (Value.slice (some ⟨gv, 0, none⟩) X.length cv).ownBlock = some z) ?_ hpl (fun e => HNP.out p e rfl) c1 fz; (repeat (first | exact HK27.out | exact Keep.refl _ _ | refine Keep.drew ?_ | refine Keep.drewN ?_ _ | refine Keep.alloc ?_ _ | refine Keep.setNew ?_ (by omega) _)); done))) (fun hS13 => ?_)
        replace hS13 := hS13.resolve_left (by decide)
        try simp only [Act.put, List.setIfInBounds_toArray, List.set_cons_zero, List.set_cons_succ]
        refine wpAnyL_take 14 (oi := { dst := some 30, op := Go.Op.indexAddr 81 (Go.Operand.tmp 29) (Go.Operand.tmp 17), type := 0, pos := "buddy.go:47", after := #[{ on := 13, ground := Go.Ground.data }, { on := 1, ground := Go.Ground.data }, { on := 0, ground := Go.Ground.phase }, { on := 1, ground := Go.Ground.phase }, { on := 2, ground := Go.Ground.phase }, { on := 3, ground := Go.Ground.phase }, { on := 4, ground := Go.Ground.phase }, { on := 5, ground := Go.Ground.phase }, { on := 6, ground := Go.Ground.phase }, { on := 7, ground := Go.Ground.phase }, { on := 8, ground := Go.Ground.phase }, { on := 9, ground := Go.Ground.phase }, { on := 10, ground := Go.Ground.phase }, { on := 11, ground := Go.Ground.phase }], guard := none }) (v := ?_) rfl (by kernel_rfl) (by kernel_rfl) (by kernel_rfl) (by kernel_rfl) (fun _ _ _ h => h) (Or.inl ⟨by rfl, ?_⟩) (by assumption) ?_
        rotate_left
        · (intro w hSw; (try dsimp only at hSw); go_split_ands; go_simp; try (with_reducible rfl))
        simp only [Act.put, List.setIfInBounds_toArray, List.set_cons_zero, List.set_cons_succ]
        refine wpAnyL_ready (rs := [15]) (by kernel_rfl) (by simp) ?_
        refine AllReadyL.cons (o := { dst := none, op := Go.Op.store 33 (Go.Operand.tmp 30) (Go.Operand.tmp 27), type := 0, pos := "buddy.go:47", after := #[{ on := 14, ground := Go.Ground.data }, { on := 11, ground := Go.Ground.data }, { on := 11, ground := Go.Ground.chain }, { on := 0, ground := Go.Ground.phase }, { on := 1, ground := Go.Ground.phase }, { on := 2, ground := Go.Ground.phase }, { on := 3, ground := Go.Ground.phase }, { on := 4, ground := Go.Ground.phase }, { on := 5, ground := Go.Ground.phase }, { on := 6, ground := Go.Ground.phase }, { on := 7, ground := Go.Ground.phase }, { on := 8, ground := Go.Ground.phase }, { on := 9, ground := Go.Ground.phase }, { on := 10, ground := Go.Ground.phase }, { on := 11, ground := Go.Ground.phase }], guard := none }) rfl (fun K hK => ?_) ?_
        · go_simp
          refine hK.out _ _ (.inl rfl) (fun _ => ?_)
          try simp only [Act.put, List.setIfInBounds_toArray, List.set_cons_zero, List.set_cons_succ]
          refine wpAnyL_done (by kernel_rfl) ?_ _
          refine NoPanic.normal ?_
          have hq := repB_set (S' := dropS S k c) HR1.out hk (by rw [HVK.out]; exact HK27.out) (by rw [HLP.out, HX.out]; exact HO27.out) (fun j hj a => drop_other S hj a) (by rw [HVK.out]; exact fun x hx => .inl hx)
          have HQ := Lib.hid hq
          clear hq
          go_wp2
          go_end0
          refine ⟨rfl, ⟨_, HQ.out.1, fun j hj x hx => ?_⟩, ?_⟩
          · by_cases e : j = k
            · subst e
              rw [if_pos rfl] at hx
              exact .inl (HG.out j hj x (by rw [HVK.out]; exact hx))
            · rw [if_neg e] at hx
              exact .inl (HG.out j hj x hx)
          · exact (HK1.out.mono (fun _ _ h => h.elim)).trans (HQ.out.2.mono fun z _ hz => hz.imp id (fun h => HG.out k hk z h))
        exact AllReadyL.nil
      exact AllReadyL.nil
    refine AllReadyL.cons (o := { dst := some 29, op := Go.Op.fieldAddr 83 (Go.Operand.tmp 28) 1, type := 0, pos := "buddy.go:47", after := #[{ on := 12, ground := Go.Ground.data }], guard := none }) rfl (fun K hK => ?_) ?_
    · go_simp
      refine hK.out _ _ (.inr (by (refine keepS2 (S := fun z => (Value.slice (some ⟨gv, 0, none⟩) X.length cv).ownBlock = some z) ?_ hpl (fun e => HNP.out p e rfl) c1 fz; (repeat (first | exact HK27.out | exact Keep.refl _ _ | refine Keep.drew ?_ | refine Keep.drewN ?_ _ | refine Keep.alloc ?_ _ | refine Keep.setNew ?_ (by omega) _)); done))) (fun hS12 => ?_)
      replace hS12 := hS12.resolve_left (by decide)
      try simp only [Act.put, List.setIfInBounds_toArray, List.set_cons_zero, List.set_cons_succ]
      refine wpAnyL_ready (rs := [11]) (by kernel_rfl) (by simp) ?_
      refine AllReadyL.cons (o := { dst := some 27, op := Go.Op.call { callee := Go.Callee.value (Go.Operand.func 61), args := #[Go.Operand.tmp 23, Go.Operand.tmp 24, Go.Operand.tmp 26], argTypes := #[33, 3, 3] }, type := 33, pos := "buddy.go:47", after := #[{ on := 7, ground := Go.Ground.data }, { on := 8, ground := Go.Ground.data }, { on := 10, ground := Go.Ground.data }], guard := none }) rfl (fun K hK => ?_) ?_
      · go_simp
        go_at_call 61
        refine (del_any B gv cv m X _ (HO1.out.keep (S := fun _ => False) (by (repeat (first | exact Keep.refl _ _ | exact Keep.refl _ _ | refine Keep.drew ?_ | refine Keep.drewN ?_ _ | refine Keep.alloc ?_ _ | refine Keep.setNew ?_ (by omega) _)); done) (fun _ _ => id)) hml).mono ?_
        rintro e w27 ⟨rfl, ho27, hk27⟩
        have HK27 : Hid (Keep (fun z => (Value.slice (some ⟨gv, 0, none⟩) X.length cv).ownBlock = some z) w1 w27) := Keep.trans (by (repeat (first | exact Keep.refl _ _ | exact Keep.refl _ _ | refine Keep.drew ?_ | refine Keep.drewN ?_ _ | refine Keep.alloc ?_ _ | refine Keep.setNew ?_ (by omega) _)); done) (hk27.mono fun z _ hz => by subst hz; rfl)
        have HO27 := Lib.hid ho27
        clear ho27 hk27
        refine hK.out _ _ (.inr (by (refine keepS2 (S := fun z => (Value.slice (some ⟨gv, 0, none⟩) X.length cv).ownBlock = some z) ?_ hpl (fun e => HNP.out p e rfl) c1 fz; (repeat (first | exact HK27.out | exact Keep.refl _ _ | refine Keep.drew ?_ | refine Keep.drewN ?_ _ | refine Keep.alloc ?_ _ | refine Keep.setNew ?_ (by omega) _)); done))) (fun hS13 => ?_)
        replace hS13 := hS13.resolve_left (by decide)
        try simp only [Act.put, List.setIfInBounds_toArray, List.set_cons_zero, List.set_cons_succ]
        refine wpAnyL_take 14 (oi := { dst := some 30, op := Go.Op.indexAddr 81 (Go.Operand.tmp 29) (Go.Operand.tmp 17), type := 0, pos := "buddy.go:47", after := #[{ on := 13, ground := Go.Ground.data }, { on := 1, ground := Go.Ground.data }, { on := 0, ground := Go.Ground.phase }, { on := 1, ground := Go.Ground.phase }, { on := 2, ground := Go.Ground.phase }, { on := 3, ground := Go.Ground.phase }, { on := 4, ground := Go.Ground.phase }, { on := 5, ground := Go.Ground.phase }, { on := 6, ground := Go.Ground.phase }, { on := 7, ground := Go.Ground.phase }, { on := 8, ground := Go.Ground.phase }, { on := 9, ground := Go.Ground.phase }, { on := 10, ground := Go.Ground.phase }, { on := 11, ground := Go.Ground.phase }], guard := none }) (v := ?_) rfl (by kernel_rfl) (by kernel_rfl) (by kernel_rfl) (by kernel_rfl) (fun _ _ _ h => h) (Or.inl ⟨by rfl, ?_⟩) (by assumption) ?_
        rotate_left
        · (intro w hSw; (try dsimp only at hSw); go_split_ands; go_simp; try (with_reducible rfl))
        simp only [Act.put, List.setIfInBounds_toArray, List.set_cons_zero, List.set_cons_succ]
        refine wpAnyL_ready (rs := [15]) (by kernel_rfl) (by simp) ?_
        refine AllReadyL.cons (o := { dst := none, op := Go.Op.store 33 (Go.Operand.tmp 30) (Go.Operand.tmp 27), type := 0, pos := "buddy.go:47", after := #[{ on := 14, ground := Go.Ground.data }, { on := 11, ground := Go.Ground.data }, { on := 11, ground := Go.Ground.chain }, { on := 0, ground := Go.Ground.phase }, { on := 1, ground := Go.Ground.phase }, { on := 2, ground := Go.Ground.phase }, { on := 3, ground := Go.Ground.phase }, { on := 4, ground := Go.Ground.phase }, { on := 5, ground := Go.Ground.phase }, { on := 6, ground := Go.Ground.phase }, { on := 7, ground := Go.Ground.phase }, { on := 8, ground := Go.Ground.phase }, { on := 9, ground := Go.Ground.phase }, { on := 10, ground := Go.Ground.phase }, { on := 11, ground := Go.Ground.phase }], guard := none }) rfl (fun K hK => ?_) ?_
        · go_simp
          refine hK.out _ _ (.inl rfl) (fun _ => ?_)
          try simp only [Act.put, List.setIfInBounds_toArray, List.set_cons_zero, List.set_cons_succ]
          refine wpAnyL_done (by kernel_rfl) ?_ _
          refine NoPanic.normal ?_
          have hq := repB_set (S' := dropS S k c) HR1.out hk (by rw [HVK.out]; exact HK27.out) (by rw [HLP.out, HX.out]; exact HO27.out) (fun j hj a => drop_other S hj a) (by rw [HVK.out]; exact fun x hx => .inl hx)
          have HQ := Lib.hid hq
          clear hq
          go_wp2
          go_end0
          refine ⟨rfl, ⟨_, HQ.out.1, fun j hj x hx => ?_⟩, ?_⟩
          · by_cases e : j = k
            · subst e
              rw [if_pos rfl] at hx
              exact .inl (HG.out j hj x (by rw [HVK.out]; exact hx))
            · rw [if_neg e] at hx
              exact .inl (HG.out j hj x hx)
          · exact (HK1.out.mono (fun _ _ h => h.elim)).trans (HQ.out.2.mono fun z _ hz => hz.imp id (fun h => HG.out k hk z h))
        exact AllReadyL.nil
      exact AllReadyL.nil
    exact AllReadyL.nil
  exact AllReadyL.nil

end Go.Proofs.Ytnjcchgbkemekaa
