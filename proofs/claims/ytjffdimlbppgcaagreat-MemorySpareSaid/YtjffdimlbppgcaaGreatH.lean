/- Buddy: holder, Has, wrong, Free, Greatest. -/
import Derived.Test.YtjffdimlbppgcaaGreatD
set_option linter.unusedVariables false
set_option linter.unusedSimpArgs false
namespace Go.Proofs.YtjffdimlbppgcaaGreat
open Go.RowKit Go.Own

/- Part E: Buddy: put, drop. -/
theorem boxI (w : World) (c : Int) : (w.alloc (.cells #[.int .i64 c] 3)).heap[w.heap.size]? = some (.cells (inE.c c).toArray 3 (0, 0)) := heap_alloc_new w _

/-- What put and drop leave. -/
def PutC (w : World) (B p n : Nat) (S : Nat → Nat → Bool) (fr : Int) (G : Nat → Prop) (e : Ending) (w' : World) : Prop :=
  e = .returned (.tuple #[]) ∧ BS w' B p n S fr (fun x => G x ∨ w.heap.size ≤ x) ∧ Keep (fun z => z = p ∨ G z) w w'

set_option maxRecDepth 100000 in
set_option maxHeartbeats 4000000 in
theorem put_any {w : World} {B p n k c : Nat} {S : Nat → Nat → Bool} {fr : Int} {G : Nat → Prop} (hB : B ≤ w.heap.size) (h : BS w B p n S fr G) (hk : k ≤ 8) (hc : c < n) (hs : S k c = false) :
    Calls Tryz.prog 90 #[.pointer (some ⟨p, 0, none⟩), .int .i64 (c : Int), .int .i64 (k : Int)] w (PutC w B p n (putS S k c) fr G) := by
  obtain ⟨V, hR, hG⟩ := h
  have HR := Lib.hid hR
  have HG := Lib.hid hG
  have HCT := Lib.hid (li_count S n k c hc)
  have HLP := Lib.hid (li_put S n k c hc hs)
  have hlen := li_len S n k
  have hn := hR.hn
  have hkz : (0 : Int) ≤ (k : Int) := Int.natCast_nonneg k
  have hk9 : (k : Int) < 9 := by omega
  obtain ⟨m, hm⟩ : ∃ m, (ls S c k).length = m := ⟨_, rfl⟩
  rw [hm] at HCT HLP
  have hml : m ≤ (li S n k).length := by rw [← HCT.out]; exact List.countP_le_length
  obtain ⟨fb, hfb⟩ : ∃ b, (li S n k).contains (c : Int) = b := ⟨_, rfl⟩
  have HPL := Lib.hid (place_any (c : Int) hR hk)
  rw [HCT.out, hfb] at HPL
  have HL2 : Hid ((li S n k).length ≤ 2000) := by unfold Hid; omega
  clear hR hG hm hfb hlen
  go_enter Tryz.func90, Tryz.ntmps90
  go_wp2_with (go_at_call 96; refine HPL.out.mono ?_; rintro e w1 ⟨rfl, hk1⟩; have HK1 := Lib.hid hk1; clear hk1)
  have HR1 := Lib.hid (HR.out.keep0 HK1.out)
  have hpl := block_lt HR1.out.hp
  have c1 := HR1.out.cV hk
  have fz := HR1.out.fz (1 + k)
  have HVS := Lib.hid (HR1.out.hv k hk).slice
  have hB1 : B ≤ w1.heap.size := Nat.le_trans hB HK1.out.size
  obtain ⟨vk, hvk⟩ : ∃ v, V k = v := ⟨_, rfl⟩
  have HVK := Lib.hid hvk
  have HO1 : Hid (OwnL inE w1 B 3 vk (li S n k)) := by rw [← hvk]; exact HR1.out.hv k hk
  have HNP : Hid (∀ x, vk.ownBlock = some x → x ≠ p) := by rw [← hvk]; exact HR1.out.np hk
  rw [hvk] at c1
  obtain ⟨av, cv, hav, -⟩ := HO1.out.slice
  obtain ⟨X, hX⟩ : ∃ X, li S n k = X := ⟨_, rfl⟩
  have HX := Lib.hid hX
  rw [hX] at HO1 HL2 hml hav
  clear hvk hX HVS
  subst hav
  refine wp_region_noPanic ?_
  refine wp_region_L (fun w' => w'.cell? ⟨p, 1 + k, none⟩ = some (.slice av X.length cv) ∧ w'.frozen? ⟨p, 1 + k, none⟩ = false) 15 (by kernel_rfl) (by (refine keepS2 (S := fun z => (Value.slice av X.length cv).ownBlock = some z) ?_ hpl (fun e => HNP.out p e rfl) c1 fz; (repeat (first | exact HK26.out | exact Keep.refl _ _ | refine Keep.drew ?_ | refine Keep.drewN ?_ _ | refine Keep.alloc ?_ _ | refine Keep.setNew ?_ (by omega) _)); done)) (fun hS0 => ?_)
  refine wpAnyL_take 0 (oi := { dst := some 15, op := Go.Op.move (Go.Operand.tmp 0), type := 99, pos := "buddy.go:42", after := #[], guard := none }) (v := ?_) rfl (by kernel_rfl) (by kernel_rfl) (by kernel_rfl) (by kernel_rfl) (fun _ _ _ h => h) (Or.inl ⟨by rfl, ?_⟩) (by assumption) ?_
  rotate_left
  · (intro w hSw; (try dsimp only at hSw); go_split_ands; go_simp; try (with_reducible rfl))
  simp only [Act.put, List.setIfInBounds_toArray, List.set_cons_zero, List.set_cons_succ]
  refine wpAnyL_take 1 (oi := { dst := some 16, op := Go.Op.move (Go.Operand.tmp 2), type := 3, pos := "buddy.go:42", after := #[], guard := none }) (v := ?_) rfl (by kernel_rfl) (by kernel_rfl) (by kernel_rfl) (by kernel_rfl) (fun _ _ _ h => h) (Or.inl ⟨by rfl, ?_⟩) (by assumption) ?_
  rotate_left
  · (intro w hSw; (try dsimp only at hSw); go_split_ands; go_simp; try (with_reducible rfl))
  simp only [Act.put, List.setIfInBounds_toArray, List.set_cons_zero, List.set_cons_succ]
  refine wpAnyL_take 2 (oi := { dst := some 17, op := Go.Op.move (Go.Operand.tmp 0), type := 99, pos := "buddy.go:42", after := #[], guard := none }) (v := ?_) rfl (by kernel_rfl) (by kernel_rfl) (by kernel_rfl) (by kernel_rfl) (fun _ _ _ h => h) (Or.inl ⟨by rfl, ?_⟩) (by assumption) ?_
  rotate_left
  · (intro w hSw; (try dsimp only at hSw); go_split_ands; go_simp; try (with_reducible rfl))
  simp only [Act.put, List.setIfInBounds_toArray, List.set_cons_zero, List.set_cons_succ]
  refine wpAnyL_take 3 (oi := { dst := some 18, op := Go.Op.move (Go.Operand.tmp 2), type := 3, pos := "buddy.go:42", after := #[], guard := none }) (v := ?_) rfl (by kernel_rfl) (by kernel_rfl) (by kernel_rfl) (by kernel_rfl) (fun _ _ _ h => h) (Or.inl ⟨by rfl, ?_⟩) (by assumption) ?_
  rotate_left
  · (intro w hSw; (try dsimp only at hSw); go_split_ands; go_simp; try (with_reducible rfl))
  simp only [Act.put, List.setIfInBounds_toArray, List.set_cons_zero, List.set_cons_succ]
  refine wpAnyL_take 4 (oi := { dst := some 19, op := Go.Op.nilCheck (Go.Operand.tmp 17), type := 0, pos := "buddy.go:42", after := #[{ on := 2, ground := Go.Ground.data }], guard := none }) (v := ?_) rfl (by kernel_rfl) (by kernel_rfl) (by kernel_rfl) (by kernel_rfl) (fun _ _ _ h => h) (Or.inl ⟨by rfl, ?_⟩) (by assumption) ?_
  rotate_left
  · (intro w hSw; (try dsimp only at hSw); go_split_ands; go_simp; try (with_reducible rfl))
  simp only [Act.put, List.setIfInBounds_toArray, List.set_cons_zero, List.set_cons_succ]
  refine wpAnyL_take 5 (oi := { dst := some 20, op := Go.Op.fieldAddr 118 (Go.Operand.tmp 19) 1, type := 0, pos := "buddy.go:42", after := #[{ on := 4, ground := Go.Ground.data }], guard := none }) (v := ?_) rfl (by kernel_rfl) (by kernel_rfl) (by kernel_rfl) (by kernel_rfl) (fun _ _ _ h => h) (Or.inl ⟨by rfl, ?_⟩) (by assumption) ?_
  rotate_left
  · (intro w hSw; (try dsimp only at hSw); go_split_ands; go_simp; try (with_reducible rfl))
  simp only [Act.put, List.setIfInBounds_toArray, List.set_cons_zero, List.set_cons_succ]
  refine wpAnyL_take 6 (oi := { dst := some 21, op := Go.Op.indexAddr 116 (Go.Operand.tmp 20) (Go.Operand.tmp 18), type := 0, pos := "buddy.go:42", after := #[{ on := 5, ground := Go.Ground.data }, { on := 3, ground := Go.Ground.data }], guard := none }) (v := ?_) rfl (by kernel_rfl) (by kernel_rfl) (by kernel_rfl) (by kernel_rfl) (fun _ _ _ h => h) (Or.inl ⟨by rfl, ?_⟩) (by assumption) ?_
  rotate_left
  · (intro w hSw; (try dsimp only at hSw); go_split_ands; go_simp; try (with_reducible rfl))
  simp only [Act.put, List.setIfInBounds_toArray, List.set_cons_zero, List.set_cons_succ]
  refine wpAnyL_take 7 (oi := { dst := some 22, op := Go.Op.load 48 (Go.Operand.tmp 21), type := 48, pos := "buddy.go:42", after := #[{ on := 6, ground := Go.Ground.data }], guard := none }) (v := ?_) rfl (by kernel_rfl) (by kernel_rfl) (by kernel_rfl) (by kernel_rfl) (fun _ _ _ h => h) (Or.inl ⟨by rfl, ?_⟩) (by assumption) ?_
  rotate_left
  · (intro w hSw; (try dsimp only at hSw); go_split_ands; go_simp; try (with_reducible rfl))
  simp only [Act.put, List.setIfInBounds_toArray, List.set_cons_zero, List.set_cons_succ]
  refine wpAnyL_take 8 (oi := { dst := some 23, op := Go.Op.move (Go.Operand.tmp 6), type := 3, pos := "buddy.go:42", after := #[], guard := none }) (v := ?_) rfl (by kernel_rfl) (by kernel_rfl) (by kernel_rfl) (by kernel_rfl) (fun _ _ _ h => h) (Or.inl ⟨by rfl, ?_⟩) (by assumption) ?_
  rotate_left
  · (intro w hSw; (try dsimp only at hSw); go_split_ands; go_simp; try (with_reducible rfl))
  simp only [Act.put, List.setIfInBounds_toArray, List.set_cons_zero, List.set_cons_succ]
  refine wpAnyL_take 9 (oi := { dst := some 24, op := Go.Op.move (Go.Operand.tmp 1), type := 3, pos := "buddy.go:42", after := #[], guard := none }) (v := ?_) rfl (by kernel_rfl) (by kernel_rfl) (by kernel_rfl) (by kernel_rfl) (fun _ _ _ h => h) (Or.inl ⟨by rfl, ?_⟩) (by assumption) ?_
  rotate_left
  · (intro w hSw; (try dsimp only at hSw); go_split_ands; go_simp; try (with_reducible rfl))
  simp only [Act.put, List.setIfInBounds_toArray, List.set_cons_zero, List.set_cons_succ]
  refine wpAnyL_ready (rs := [10, 12]) (by kernel_rfl) (by simp) ?_
  refine AllReadyL.cons (o := { dst := some 25, op := Go.Op.buildSlice 48 1 #[(0, Go.Operand.tmp 24)], type := 48, pos := "buddy.go:42", after := #[{ on := 9, ground := Go.Ground.data }], guard := none }) rfl (fun K hK => ?_) ?_
  · go_simp
    refine hK.out _ _ (.inr (by (refine keepS2 (S := fun z => (Value.slice av X.length cv).ownBlock = some z) ?_ hpl (fun e => HNP.out p e rfl) c1 fz; (repeat (first | exact HK26.out | exact Keep.refl _ _ | refine Keep.drew ?_ | refine Keep.drewN ?_ _ | refine Keep.alloc ?_ _ | refine Keep.setNew ?_ (by omega) _)); done))) (fun hS10 => ?_)
    replace hS10 := hS10.resolve_left (by decide)
    try simp only [Act.put, List.setIfInBounds_toArray, List.set_cons_zero, List.set_cons_succ]
    refine wpAnyL_ready (rs := [11, 12]) (by kernel_rfl) (by simp) ?_
    refine AllReadyL.cons (o := { dst := some 26, op := Go.Op.call { callee := Go.Callee.value (Go.Operand.func 102), args := #[Go.Operand.tmp 22, Go.Operand.tmp 23, Go.Operand.tmp 25], argTypes := #[48, 3, 48] }, type := 48, pos := "buddy.go:42", after := #[{ on := 7, ground := Go.Ground.data }, { on := 8, ground := Go.Ground.data }, { on := 10, ground := Go.Ground.data }], guard := none }) rfl (fun K hK => ?_) ?_
    · go_simp
      go_at_call 102
      refine (ins_any B m w1.heap.size (.slice av X.length cv) X (c : Int) _ (by simp; omega) (HO1.out.keep (S := fun _ => False) (by (repeat (first | exact Keep.refl _ _ | exact Keep.refl _ _ | refine Keep.drew ?_ | refine Keep.drewN ?_ _ | refine Keep.alloc ?_ _ | refine Keep.setNew ?_ (by omega) _)); done) (fun _ _ => id)) hml HL2.out (boxI w1.drew (c : Int)) (fun e => by have := (HO1.out.lt _ e).2; omega)).mono ?_
      rintro e w26 ⟨v26, rfl, ho26, hk26, hf26⟩
      obtain ⟨a26, c26, rfl, -⟩ := ho26.slice
      have HK26 : Hid (Keep (fun z => (Value.slice av X.length cv).ownBlock = some z) w1 w26) := Keep.trans (by (repeat (first | exact Keep.refl _ _ | exact Keep.refl _ _ | refine Keep.drew ?_ | refine Keep.drewN ?_ _ | refine Keep.alloc ?_ _ | refine Keep.setNew ?_ (by omega) _)); done) hk26
      have HO26 := Lib.hid ho26
      have HF26 : Hid (∀ x, (Value.slice a26 (insAt X m (c : Int)).length c26).ownBlock = some x → (Value.slice av X.length cv).ownBlock = some x ∨ w1.heap.size ≤ x) := fun x hx => (hf26 x hx).imp id (fun h => by simp at h; omega)
      clear ho26 hk26 hf26
      refine hK.out _ _ (.inr (by (refine keepS2 (S := fun z => (Value.slice av X.length cv).ownBlock = some z) ?_ hpl (fun e => HNP.out p e rfl) c1 fz; (repeat (first | exact HK26.out | exact Keep.refl _ _ | refine Keep.drew ?_ | refine Keep.drewN ?_ _ | refine Keep.alloc ?_ _ | refine Keep.setNew ?_ (by omega) _)); done))) (fun hS11 => ?_)
      replace hS11 := hS11.resolve_left (by decide)
      try simp only [Act.put, List.setIfInBounds_toArray, List.set_cons_zero, List.set_cons_succ]
      refine wpAnyL_ready (rs := [12]) (by kernel_rfl) (by simp) ?_
      refine AllReadyL.cons (o := { dst := some 27, op := Go.Op.nilCheck (Go.Operand.tmp 15), type := 0, pos := "buddy.go:42", after := #[{ on := 0, ground := Go.Ground.data }], guard := none }) rfl (fun K hK => ?_) ?_
      · go_simp
        refine hK.out _ _ (.inr (by (refine keepS2 (S := fun z => (Value.slice av X.length cv).ownBlock = some z) ?_ hpl (fun e => HNP.out p e rfl) c1 fz; (repeat (first | exact HK26.out | exact Keep.refl _ _ | refine Keep.drew ?_ | refine Keep.drewN ?_ _ | refine Keep.alloc ?_ _ | refine Keep.setNew ?_ (by omega) _)); done))) (fun hS12 => ?_)
        replace hS12 := hS12.resolve_left (by decide)
        try simp only [Act.put, List.setIfInBounds_toArray, List.set_cons_zero, List.set_cons_succ]
        refine wpAnyL_ready (rs := [13]) (by kernel_rfl) (by simp) ?_
        refine AllReadyL.cons (o := { dst := some 28, op := Go.Op.fieldAddr 118 (Go.Operand.tmp 27) 1, type := 0, pos := "buddy.go:42", after := #[{ on := 12, ground := Go.Ground.data }], guard := none }) rfl (fun K hK => ?_) ?_
        · go_simp
          refine hK.out _ _ (.inr (by (refine keepS2 (S := fun z => (Value.slice av X.length cv).ownBlock = some z) ?_ hpl (fun e => HNP.out p e rfl) c1 fz; (repeat (first | exact HK26.out | exact Keep.refl _ _ | refine Keep.drew ?_ | refine Keep.drewN ?_ _ | refine Keep.alloc ?_ _ | refine Keep.setNew ?_ (by omega) _)); done))) (fun hS13 => ?_)
          replace hS13 := hS13.resolve_left (by decide)
          try simp only [Act.put, List.setIfInBounds_toArray, List.set_cons_zero, List.set_cons_succ]
          refine wpAnyL_take 14 (oi := { dst := some 29, op := Go.Op.indexAddr 116 (Go.Operand.tmp 28) (Go.Operand.tmp 16), type := 0, pos := "buddy.go:42", after := #[{ on := 13, ground := Go.Ground.data }, { on := 1, ground := Go.Ground.data }, { on := 0, ground := Go.Ground.phase }, { on := 1, ground := Go.Ground.phase }, { on := 2, ground := Go.Ground.phase }, { on := 3, ground := Go.Ground.phase }, { on := 4, ground := Go.Ground.phase }, { on := 5, ground := Go.Ground.phase }, { on := 6, ground := Go.Ground.phase }, { on := 7, ground := Go.Ground.phase }, { on := 8, ground := Go.Ground.phase }, { on := 9, ground := Go.Ground.phase }, { on := 10, ground := Go.Ground.phase }, { on := 11, ground := Go.Ground.phase }], guard := none }) (v := ?_) rfl (by kernel_rfl) (by kernel_rfl) (by kernel_rfl) (by kernel_rfl) (fun _ _ _ h => h) (Or.inl ⟨by rfl, ?_⟩) (by assumption) ?_
          rotate_left
          · (intro w hSw; (try dsimp only at hSw); go_split_ands; go_simp; try (with_reducible rfl))
          simp only [Act.put, List.setIfInBounds_toArray, List.set_cons_zero, List.set_cons_succ]
          refine wpAnyL_ready (rs := [15]) (by kernel_rfl) (by simp) ?_
          refine AllReadyL.cons (o := { dst := none, op := Go.Op.store 48 (Go.Operand.tmp 29) (Go.Operand.tmp 26), type := 0, pos := "buddy.go:42", after := #[{ on := 14, ground := Go.Ground.data }, { on := 11, ground := Go.Ground.data }, { on := 11, ground := Go.Ground.chain }, { on := 0, ground := Go.Ground.phase }, { on := 1, ground := Go.Ground.phase }, { on := 2, ground := Go.Ground.phase }, { on := 3, ground := Go.Ground.phase }, { on := 4, ground := Go.Ground.phase }, { on := 5, ground := Go.Ground.phase }, { on := 6, ground := Go.Ground.phase }, { on := 7, ground := Go.Ground.phase }, { on := 8, ground := Go.Ground.phase }, { on := 9, ground := Go.Ground.phase }, { on := 10, ground := Go.Ground.phase }, { on := 11, ground := Go.Ground.phase }], guard := none }) rfl (fun K hK => ?_) ?_
          · go_simp
            refine hK.out _ _ (.inl rfl) (fun _ => ?_)
            try simp only [Act.put, List.setIfInBounds_toArray, List.set_cons_zero, List.set_cons_succ]
            refine wpAnyL_done (by kernel_rfl) ?_ _
            refine NoPanic.normal ?_
            have hq := repB_set (S' := putS S k c) HR1.out hk (by rw [HVK.out]; exact HK26.out) (by rw [HLP.out, HX.out]; exact HO26.out) (fun j hj a => put_other S hj a) (by rw [HVK.out]; exact HF26.out)
            have HQ := Lib.hid hq
            clear hq
            go_wp2
            go_end0
            refine ⟨rfl, ⟨_, HQ.out.1, fun j hj x hx => ?_⟩, ?_⟩
            · by_cases e : j = k
              · subst e
                rw [if_pos rfl] at hx
                rcases HF26.out x hx with h' | h'
                · exact .inl (HG.out j hj x (by rw [HVK.out]; exact h'))
                · exact .inr (Nat.le_trans HK1.out.size h')
              · rw [if_neg e] at hx
                exact .inl (HG.out j hj x hx)
            · exact (HK1.out.mono (fun _ _ h => h.elim)).trans (HQ.out.2.mono fun z _ hz => hz.imp id (fun h => HG.out k hk z h))
          exact AllReadyL.nil
        exact AllReadyL.nil
      exact AllReadyL.nil
    refine AllReadyL.cons (o := { dst := some 27, op := Go.Op.nilCheck (Go.Operand.tmp 15), type := 0, pos := "buddy.go:42", after := #[{ on := 0, ground := Go.Ground.data }], guard := none }) rfl (fun K hK => ?_) ?_
    · go_simp
      refine hK.out _ _ (.inr (by (refine keepS2 (S := fun z => (Value.slice av X.length cv).ownBlock = some z) ?_ hpl (fun e => HNP.out p e rfl) c1 fz; (repeat (first | exact HK26.out | exact Keep.refl _ _ | refine Keep.drew ?_ | refine Keep.drewN ?_ _ | refine Keep.alloc ?_ _ | refine Keep.setNew ?_ (by omega) _)); done))) (fun hS11 => ?_)
      replace hS11 := hS11.resolve_left (by decide)
      try simp only [Act.put, List.setIfInBounds_toArray, List.set_cons_zero, List.set_cons_succ]
      refine wpAnyL_ready (rs := [11, 13]) (by kernel_rfl) (by simp) ?_
      refine AllReadyL.cons (o := { dst := some 26, op := Go.Op.call { callee := Go.Callee.value (Go.Operand.func 102), args := #[Go.Operand.tmp 22, Go.Operand.tmp 23, Go.Operand.tmp 25], argTypes := #[48, 3, 48] }, type := 48, pos := "buddy.go:42", after := #[{ on := 7, ground := Go.Ground.data }, { on := 8, ground := Go.Ground.data }, { on := 10, ground := Go.Ground.data }], guard := none }) rfl (fun K hK => ?_) ?_
      · go_simp
        go_at_call 102
        refine (ins_any B m w1.heap.size (.slice av X.length cv) X (c : Int) _ (by simp; omega) (HO1.out.keep (S := fun _ => False) (by (repeat (first | exact Keep.refl _ _ | exact Keep.refl _ _ | refine Keep.drew ?_ | refine Keep.drewN ?_ _ | refine Keep.alloc ?_ _ | refine Keep.setNew ?_ (by omega) _)); done) (fun _ _ => id)) hml HL2.out (boxI w1.drew (c : Int)) (fun e => by have := (HO1.out.lt _ e).2; omega)).mono ?_
        rintro e w26 ⟨v26, rfl, ho26, hk26, hf26⟩
        obtain ⟨a26, c26, rfl, -⟩ := ho26.slice
        have HK26 : Hid (Keep (fun z => (Value.slice av X.length cv).ownBlock = some z) w1 w26) := Keep.trans (by (repeat (first | exact Keep.refl _ _ | exact Keep.refl _ _ | refine Keep.drew ?_ | refine Keep.drewN ?_ _ | refine Keep.alloc ?_ _ | refine Keep.setNew ?_ (by omega) _)); done) hk26
        have HO26 := Lib.hid ho26
        have HF26 : Hid (∀ x, (Value.slice a26 (insAt X m (c : Int)).length c26).ownBlock = some x → (Value.slice av X.length cv).ownBlock = some x ∨ w1.heap.size ≤ x) := fun x hx => (hf26 x hx).imp id (fun h => by simp at h; omega)
        clear ho26 hk26 hf26
        refine hK.out _ _ (.inr (by (refine keepS2 (S := fun z => (Value.slice av X.length cv).ownBlock = some z) ?_ hpl (fun e => HNP.out p e rfl) c1 fz; (repeat (first | exact HK26.out | exact Keep.refl _ _ | refine Keep.drew ?_ | refine Keep.drewN ?_ _ | refine Keep.alloc ?_ _ | refine Keep.setNew ?_ (by omega) _)); done))) (fun hS12 => ?_)
        replace hS12 := hS12.resolve_left (by decide)
        try simp only [Act.put, List.setIfInBounds_toArray, List.set_cons_zero, List.set_cons_succ]
        refine wpAnyL_ready (rs := [13]) (by kernel_rfl) (by simp) ?_
        refine AllReadyL.cons (o := { dst := some 28, op := Go.Op.fieldAddr 118 (Go.Operand.tmp 27) 1, type := 0, pos := "buddy.go:42", after := #[{ on := 12, ground := Go.Ground.data }], guard := none }) rfl (fun K hK => ?_) ?_
        · go_simp
          refine hK.out _ _ (.inr (by (refine keepS2 (S := fun z => (Value.slice av X.length cv).ownBlock = some z) ?_ hpl (fun e => HNP.out p e rfl) c1 fz; (repeat (first | exact HK26.out | exact Keep.refl _ _ | refine Keep.drew ?_ | refine Keep.drewN ?_ _ | refine Keep.alloc ?_ _ | refine Keep.setNew ?_ (by omega) _)); done))) (fun hS13 => ?_)
          replace hS13 := hS13.resolve_left (by decide)
          try simp only [Act.put, List.setIfInBounds_toArray, List.set_cons_zero, List.set_cons_succ]
          refine wpAnyL_take 14 (oi := { dst := some 29, op := Go.Op.indexAddr 116 (Go.Operand.tmp 28) (Go.Operand.tmp 16), type := 0, pos := "buddy.go:42", after := #[{ on := 13, ground := Go.Ground.data }, { on := 1, ground := Go.Ground.data }, { on := 0, ground := Go.Ground.phase }, { on := 1, ground := Go.Ground.phase }, { on := 2, ground := Go.Ground.phase }, { on := 3, ground := Go.Ground.phase }, { on := 4, ground := Go.Ground.phase }, { on := 5, ground := Go.Ground.phase }, { on := 6, ground := Go.Ground.phase }, { on := 7, ground := Go.Ground.phase }, { on := 8, ground := Go.Ground.phase }, { on := 9, ground := Go.Ground.phase }, { on := 10, ground := Go.Ground.phase }, { on := 11, ground := Go.Ground.phase }], guard := none }) (v := ?_) rfl (by kernel_rfl) (by kernel_rfl) (by kernel_rfl) (by kernel_rfl) (fun _ _ _ h => h) (Or.inl ⟨by rfl, ?_⟩) (by assumption) ?_
          rotate_left
          · (intro w hSw; (try dsimp only at hSw); go_split_ands; go_simp; try (with_reducible rfl))
          simp only [Act.put, List.setIfInBounds_toArray, List.set_cons_zero, List.set_cons_succ]
          refine wpAnyL_ready (rs := [15]) (by kernel_rfl) (by simp) ?_
          refine AllReadyL.cons (o := { dst := none, op := Go.Op.store 48 (Go.Operand.tmp 29) (Go.Operand.tmp 26), type := 0, pos := "buddy.go:42", after := #[{ on := 14, ground := Go.Ground.data }, { on := 11, ground := Go.Ground.data }, { on := 11, ground := Go.Ground.chain }, { on := 0, ground := Go.Ground.phase }, { on := 1, ground := Go.Ground.phase }, { on := 2, ground := Go.Ground.phase }, { on := 3, ground := Go.Ground.phase }, { on := 4, ground := Go.Ground.phase }, { on := 5, ground := Go.Ground.phase }, { on := 6, ground := Go.Ground.phase }, { on := 7, ground := Go.Ground.phase }, { on := 8, ground := Go.Ground.phase }, { on := 9, ground := Go.Ground.phase }, { on := 10, ground := Go.Ground.phase }, { on := 11, ground := Go.Ground.phase }], guard := none }) rfl (fun K hK => ?_) ?_
          · go_simp
            refine hK.out _ _ (.inl rfl) (fun _ => ?_)
            try simp only [Act.put, List.setIfInBounds_toArray, List.set_cons_zero, List.set_cons_succ]
            refine wpAnyL_done (by kernel_rfl) ?_ _
            refine NoPanic.normal ?_
            have hq := repB_set (S' := putS S k c) HR1.out hk (by rw [HVK.out]; exact HK26.out) (by rw [HLP.out, HX.out]; exact HO26.out) (fun j hj a => put_other S hj a) (by rw [HVK.out]; exact HF26.out)
            have HQ := Lib.hid hq
            clear hq
            go_wp2
            go_end0
            refine ⟨rfl, ⟨_, HQ.out.1, fun j hj x hx => ?_⟩, ?_⟩
            · by_cases e : j = k
              · subst e
                rw [if_pos rfl] at hx
                rcases HF26.out x hx with h' | h'
                · exact .inl (HG.out j hj x (by rw [HVK.out]; exact h'))
                · exact .inr (Nat.le_trans HK1.out.size h')
              · rw [if_neg e] at hx
                exact .inl (HG.out j hj x hx)
            · exact (HK1.out.mono (fun _ _ h => h.elim)).trans (HQ.out.2.mono fun z _ hz => hz.imp id (fun h => HG.out k hk z h))
          exact AllReadyL.nil
        exact AllReadyL.nil
      refine AllReadyL.cons (o := { dst := some 28, op := Go.Op.fieldAddr 118 (Go.Operand.tmp 27) 1, type := 0, pos := "buddy.go:42", after := #[{ on := 12, ground := Go.Ground.data }], guard := none }) rfl (fun K hK => ?_) ?_
      · go_simp
        refine hK.out _ _ (.inr (by (refine keepS2 (S := fun z => (Value.slice av X.length cv).ownBlock = some z) ?_ hpl (fun e => HNP.out p e rfl) c1 fz; (repeat (first | exact HK26.out | exact Keep.refl _ _ | refine Keep.drew ?_ | refine Keep.drewN ?_ _ | refine Keep.alloc ?_ _ | refine Keep.setNew ?_ (by omega) _)); done))) (fun hS12 => ?_)
        replace hS12 := hS12.resolve_left (by decide)
        try simp only [Act.put, List.setIfInBounds_toArray, List.set_cons_zero, List.set_cons_succ]
        refine wpAnyL_ready (rs := [11]) (by kernel_rfl) (by simp) ?_
        refine AllReadyL.cons (o := { dst := some 26, op := Go.Op.call { callee := Go.Callee.value (Go.Operand.func 102), args := #[Go.Operand.tmp 22, Go.Operand.tmp 23, Go.Operand.tmp 25], argTypes := #[48, 3, 48] }, type := 48, pos := "buddy.go:42", after := #[{ on := 7, ground := Go.Ground.data }, { on := 8, ground := Go.Ground.data }, { on := 10, ground := Go.Ground.data }], guard := none }) rfl (fun K hK => ?_) ?_
        · go_simp
          go_at_call 102
          refine (ins_any B m w1.heap.size (.slice av X.length cv) X (c : Int) _ (by simp; omega) (HO1.out.keep (S := fun _ => False) (by (repeat (first | exact Keep.refl _ _ | exact Keep.refl _ _ | refine Keep.drew ?_ | refine Keep.drewN ?_ _ | refine Keep.alloc ?_ _ | refine Keep.setNew ?_ (by omega) _)); done) (fun _ _ => id)) hml HL2.out (boxI w1.drew (c : Int)) (fun e => by have := (HO1.out.lt _ e).2; omega)).mono ?_
          rintro e w26 ⟨v26, rfl, ho26, hk26, hf26⟩
          obtain ⟨a26, c26, rfl, -⟩ := ho26.slice
          have HK26 : Hid (Keep (fun z => (Value.slice av X.length cv).ownBlock = some z) w1 w26) := Keep.trans (by (repeat (first | exact Keep.refl _ _ | exact Keep.refl _ _ | refine Keep.drew ?_ | refine Keep.drewN ?_ _ | refine Keep.alloc ?_ _ | refine Keep.setNew ?_ (by omega) _)); done) hk26
          have HO26 := Lib.hid ho26
          have HF26 : Hid (∀ x, (Value.slice a26 (insAt X m (c : Int)).length c26).ownBlock = some x → (Value.slice av X.length cv).ownBlock = some x ∨ w1.heap.size ≤ x) := fun x hx => (hf26 x hx).imp id (fun h => by simp at h; omega)
          clear ho26 hk26 hf26
          refine hK.out _ _ (.inr (by (refine keepS2 (S := fun z => (Value.slice av X.length cv).ownBlock = some z) ?_ hpl (fun e => HNP.out p e rfl) c1 fz; (repeat (first | exact HK26.out | exact Keep.refl _ _ | refine Keep.drew ?_ | refine Keep.drewN ?_ _ | refine Keep.alloc ?_ _ | refine Keep.setNew ?_ (by omega) _)); done))) (fun hS13 => ?_)
          replace hS13 := hS13.resolve_left (by decide)
          try simp only [Act.put, List.setIfInBounds_toArray, List.set_cons_zero, List.set_cons_succ]
          refine wpAnyL_take 14 (oi := { dst := some 29, op := Go.Op.indexAddr 116 (Go.Operand.tmp 28) (Go.Operand.tmp 16), type := 0, pos := "buddy.go:42", after := #[{ on := 13, ground := Go.Ground.data }, { on := 1, ground := Go.Ground.data }, { on := 0, ground := Go.Ground.phase }, { on := 1, ground := Go.Ground.phase }, { on := 2, ground := Go.Ground.phase }, { on := 3, ground := Go.Ground.phase }, { on := 4, ground := Go.Ground.phase }, { on := 5, ground := Go.Ground.phase }, { on := 6, ground := Go.Ground.phase }, { on := 7, ground := Go.Ground.phase }, { on := 8, ground := Go.Ground.phase }, { on := 9, ground := Go.Ground.phase }, { on := 10, ground := Go.Ground.phase }, { on := 11, ground := Go.Ground.phase }], guard := none }) (v := ?_) rfl (by kernel_rfl) (by kernel_rfl) (by kernel_rfl) (by kernel_rfl) (fun _ _ _ h => h) (Or.inl ⟨by rfl, ?_⟩) (by assumption) ?_
          rotate_left
          · (intro w hSw; (try dsimp only at hSw); go_split_ands; go_simp; try (with_reducible rfl))
          simp only [Act.put, List.setIfInBounds_toArray, List.set_cons_zero, List.set_cons_succ]
          refine wpAnyL_ready (rs := [15]) (by kernel_rfl) (by simp) ?_
          refine AllReadyL.cons (o := { dst := none, op := Go.Op.store 48 (Go.Operand.tmp 29) (Go.Operand.tmp 26), type := 0, pos := "buddy.go:42", after := #[{ on := 14, ground := Go.Ground.data }, { on := 11, ground := Go.Ground.data }, { on := 11, ground := Go.Ground.chain }, { on := 0, ground := Go.Ground.phase }, { on := 1, ground := Go.Ground.phase }, { on := 2, ground := Go.Ground.phase }, { on := 3, ground := Go.Ground.phase }, { on := 4, ground := Go.Ground.phase }, { on := 5, ground := Go.Ground.phase }, { on := 6, ground := Go.Ground.phase }, { on := 7, ground := Go.Ground.phase }, { on := 8, ground := Go.Ground.phase }, { on := 9, ground := Go.Ground.phase }, { on := 10, ground := Go.Ground.phase }, { on := 11, ground := Go.Ground.phase }], guard := none }) rfl (fun K hK => ?_) ?_
          · go_simp
            refine hK.out _ _ (.inl rfl) (fun _ => ?_)
            try simp only [Act.put, List.setIfInBounds_toArray, List.set_cons_zero, List.set_cons_succ]
            refine wpAnyL_done (by kernel_rfl) ?_ _
            refine NoPanic.normal ?_
            have hq := repB_set (S' := putS S k c) HR1.out hk (by rw [HVK.out]; exact HK26.out) (by rw [HLP.out, HX.out]; exact HO26.out) (fun j hj a => put_other S hj a) (by rw [HVK.out]; exact HF26.out)
            have HQ := Lib.hid hq
            clear hq
            go_wp2
            go_end0
            refine ⟨rfl, ⟨_, HQ.out.1, fun j hj x hx => ?_⟩, ?_⟩
            · by_cases e : j = k
              · subst e
                rw [if_pos rfl] at hx
                rcases HF26.out x hx with h' | h'
                · exact .inl (HG.out j hj x (by rw [HVK.out]; exact h'))
                · exact .inr (Nat.le_trans HK1.out.size h')
              · rw [if_neg e] at hx
                exact .inl (HG.out j hj x hx)
            · exact (HK1.out.mono (fun _ _ h => h.elim)).trans (HQ.out.2.mono fun z _ hz => hz.imp id (fun h => HG.out k hk z h))
          exact AllReadyL.nil
        exact AllReadyL.nil
      exact AllReadyL.nil
    exact AllReadyL.nil
  refine AllReadyL.cons (o := { dst := some 27, op := Go.Op.nilCheck (Go.Operand.tmp 15), type := 0, pos := "buddy.go:42", after := #[{ on := 0, ground := Go.Ground.data }], guard := none }) rfl (fun K hK => ?_) ?_
  · go_simp
    refine hK.out _ _ (.inr (by (refine keepS2 (S := fun z => (Value.slice av X.length cv).ownBlock = some z) ?_ hpl (fun e => HNP.out p e rfl) c1 fz; (repeat (first | exact HK26.out | exact Keep.refl _ _ | refine Keep.drew ?_ | refine Keep.drewN ?_ _ | refine Keep.alloc ?_ _ | refine Keep.setNew ?_ (by omega) _)); done))) (fun hS10 => ?_)
    replace hS10 := hS10.resolve_left (by decide)
    try simp only [Act.put, List.setIfInBounds_toArray, List.set_cons_zero, List.set_cons_succ]
    refine wpAnyL_ready (rs := [10, 13]) (by kernel_rfl) (by simp) ?_
    refine AllReadyL.cons (o := { dst := some 25, op := Go.Op.buildSlice 48 1 #[(0, Go.Operand.tmp 24)], type := 48, pos := "buddy.go:42", after := #[{ on := 9, ground := Go.Ground.data }], guard := none }) rfl (fun K hK => ?_) ?_
    · go_simp
      refine hK.out _ _ (.inr (by (refine keepS2 (S := fun z => (Value.slice av X.length cv).ownBlock = some z) ?_ hpl (fun e => HNP.out p e rfl) c1 fz; (repeat (first | exact HK26.out | exact Keep.refl _ _ | refine Keep.drew ?_ | refine Keep.drewN ?_ _ | refine Keep.alloc ?_ _ | refine Keep.setNew ?_ (by omega) _)); done))) (fun hS11 => ?_)
      replace hS11 := hS11.resolve_left (by decide)
      try simp only [Act.put, List.setIfInBounds_toArray, List.set_cons_zero, List.set_cons_succ]
      refine wpAnyL_ready (rs := [11, 13]) (by kernel_rfl) (by simp) ?_
      refine AllReadyL.cons (o := { dst := some 26, op := Go.Op.call { callee := Go.Callee.value (Go.Operand.func 102), args := #[Go.Operand.tmp 22, Go.Operand.tmp 23, Go.Operand.tmp 25], argTypes := #[48, 3, 48] }, type := 48, pos := "buddy.go:42", after := #[{ on := 7, ground := Go.Ground.data }, { on := 8, ground := Go.Ground.data }, { on := 10, ground := Go.Ground.data }], guard := none }) rfl (fun K hK => ?_) ?_
      · go_simp
        go_at_call 102
        refine (ins_any B m w1.heap.size (.slice av X.length cv) X (c : Int) _ (by simp; omega) (HO1.out.keep (S := fun _ => False) (by (repeat (first | exact Keep.refl _ _ | exact Keep.refl _ _ | refine Keep.drew ?_ | refine Keep.drewN ?_ _ | refine Keep.alloc ?_ _ | refine Keep.setNew ?_ (by omega) _)); done) (fun _ _ => id)) hml HL2.out (boxI w1.drew (c : Int)) (fun e => by have := (HO1.out.lt _ e).2; omega)).mono ?_
        rintro e w26 ⟨v26, rfl, ho26, hk26, hf26⟩
        obtain ⟨a26, c26, rfl, -⟩ := ho26.slice
        have HK26 : Hid (Keep (fun z => (Value.slice av X.length cv).ownBlock = some z) w1 w26) := Keep.trans (by (repeat (first | exact Keep.refl _ _ | exact Keep.refl _ _ | refine Keep.drew ?_ | refine Keep.drewN ?_ _ | refine Keep.alloc ?_ _ | refine Keep.setNew ?_ (by omega) _)); done) hk26
        have HO26 := Lib.hid ho26
        have HF26 : Hid (∀ x, (Value.slice a26 (insAt X m (c : Int)).length c26).ownBlock = some x → (Value.slice av X.length cv).ownBlock = some x ∨ w1.heap.size ≤ x) := fun x hx => (hf26 x hx).imp id (fun h => by simp at h; omega)
        clear ho26 hk26 hf26
        refine hK.out _ _ (.inr (by (refine keepS2 (S := fun z => (Value.slice av X.length cv).ownBlock = some z) ?_ hpl (fun e => HNP.out p e rfl) c1 fz; (repeat (first | exact HK26.out | exact Keep.refl _ _ | refine Keep.drew ?_ | refine Keep.drewN ?_ _ | refine Keep.alloc ?_ _ | refine Keep.setNew ?_ (by omega) _)); done))) (fun hS12 => ?_)
        replace hS12 := hS12.resolve_left (by decide)
        try simp only [Act.put, List.setIfInBounds_toArray, List.set_cons_zero, List.set_cons_succ]
        refine wpAnyL_ready (rs := [13]) (by kernel_rfl) (by simp) ?_
        refine AllReadyL.cons (o := { dst := some 28, op := Go.Op.fieldAddr 118 (Go.Operand.tmp 27) 1, type := 0, pos := "buddy.go:42", after := #[{ on := 12, ground := Go.Ground.data }], guard := none }) rfl (fun K hK => ?_) ?_
        · go_simp
          refine hK.out _ _ (.inr (by (refine keepS2 (S := fun z => (Value.slice av X.length cv).ownBlock = some z) ?_ hpl (fun e => HNP.out p e rfl) c1 fz; (repeat (first | exact HK26.out | exact Keep.refl _ _ | refine Keep.drew ?_ | refine Keep.drewN ?_ _ | refine Keep.alloc ?_ _ | refine Keep.setNew ?_ (by omega) _)); done))) (fun hS13 => ?_)
          replace hS13 := hS13.resolve_left (by decide)
          try simp only [Act.put, List.setIfInBounds_toArray, List.set_cons_zero, List.set_cons_succ]
          refine wpAnyL_take 14 (oi := { dst := some 29, op := Go.Op.indexAddr 116 (Go.Operand.tmp 28) (Go.Operand.tmp 16), type := 0, pos := "buddy.go:42", after := #[{ on := 13, ground := Go.Ground.data }, { on := 1, ground := Go.Ground.data }, { on := 0, ground := Go.Ground.phase }, { on := 1, ground := Go.Ground.phase }, { on := 2, ground := Go.Ground.phase }, { on := 3, ground := Go.Ground.phase }, { on := 4, ground := Go.Ground.phase }, { on := 5, ground := Go.Ground.phase }, { on := 6, ground := Go.Ground.phase }, { on := 7, ground := Go.Ground.phase }, { on := 8, ground := Go.Ground.phase }, { on := 9, ground := Go.Ground.phase }, { on := 10, ground := Go.Ground.phase }, { on := 11, ground := Go.Ground.phase }], guard := none }) (v := ?_) rfl (by kernel_rfl) (by kernel_rfl) (by kernel_rfl) (by kernel_rfl) (fun _ _ _ h => h) (Or.inl ⟨by rfl, ?_⟩) (by assumption) ?_
          rotate_left
          · (intro w hSw; (try dsimp only at hSw); go_split_ands; go_simp; try (with_reducible rfl))
          simp only [Act.put, List.setIfInBounds_toArray, List.set_cons_zero, List.set_cons_succ]
          refine wpAnyL_ready (rs := [15]) (by kernel_rfl) (by simp) ?_
          refine AllReadyL.cons (o := { dst := none, op := Go.Op.store 48 (Go.Operand.tmp 29) (Go.Operand.tmp 26), type := 0, pos := "buddy.go:42", after := #[{ on := 14, ground := Go.Ground.data }, { on := 11, ground := Go.Ground.data }, { on := 11, ground := Go.Ground.chain }, { on := 0, ground := Go.Ground.phase }, { on := 1, ground := Go.Ground.phase }, { on := 2, ground := Go.Ground.phase }, { on := 3, ground := Go.Ground.phase }, { on := 4, ground := Go.Ground.phase }, { on := 5, ground := Go.Ground.phase }, { on := 6, ground := Go.Ground.phase }, { on := 7, ground := Go.Ground.phase }, { on := 8, ground := Go.Ground.phase }, { on := 9, ground := Go.Ground.phase }, { on := 10, ground := Go.Ground.phase }, { on := 11, ground := Go.Ground.phase }], guard := none }) rfl (fun K hK => ?_) ?_
          · go_simp
            refine hK.out _ _ (.inl rfl) (fun _ => ?_)
            try simp only [Act.put, List.setIfInBounds_toArray, List.set_cons_zero, List.set_cons_succ]
            refine wpAnyL_done (by kernel_rfl) ?_ _
            refine NoPanic.normal ?_
            have hq := repB_set (S' := putS S k c) HR1.out hk (by rw [HVK.out]; exact HK26.out) (by rw [HLP.out, HX.out]; exact HO26.out) (fun j hj a => put_other S hj a) (by rw [HVK.out]; exact HF26.out)
            have HQ := Lib.hid hq
            clear hq
            go_wp2
            go_end0
            refine ⟨rfl, ⟨_, HQ.out.1, fun j hj x hx => ?_⟩, ?_⟩
            · by_cases e : j = k
              · subst e
                rw [if_pos rfl] at hx
                rcases HF26.out x hx with h' | h'
                · exact .inl (HG.out j hj x (by rw [HVK.out]; exact h'))
                · exact .inr (Nat.le_trans HK1.out.size h')
              · rw [if_neg e] at hx
                exact .inl (HG.out j hj x hx)
            · exact (HK1.out.mono (fun _ _ h => h.elim)).trans (HQ.out.2.mono fun z _ hz => hz.imp id (fun h => HG.out k hk z h))
          exact AllReadyL.nil
        exact AllReadyL.nil
      refine AllReadyL.cons (o := { dst := some 28, op := Go.Op.fieldAddr 118 (Go.Operand.tmp 27) 1, type := 0, pos := "buddy.go:42", after := #[{ on := 12, ground := Go.Ground.data }], guard := none }) rfl (fun K hK => ?_) ?_
      · go_simp
        refine hK.out _ _ (.inr (by (refine keepS2 (S := fun z => (Value.slice av X.length cv).ownBlock = some z) ?_ hpl (fun e => HNP.out p e rfl) c1 fz; (repeat (first | exact HK26.out | exact Keep.refl _ _ | refine Keep.drew ?_ | refine Keep.drewN ?_ _ | refine Keep.alloc ?_ _ | refine Keep.setNew ?_ (by omega) _)); done))) (fun hS12 => ?_)
        replace hS12 := hS12.resolve_left (by decide)
        try simp only [Act.put, List.setIfInBounds_toArray, List.set_cons_zero, List.set_cons_succ]
        refine wpAnyL_ready (rs := [11]) (by kernel_rfl) (by simp) ?_
        refine AllReadyL.cons (o := { dst := some 26, op := Go.Op.call { callee := Go.Callee.value (Go.Operand.func 102), args := #[Go.Operand.tmp 22, Go.Operand.tmp 23, Go.Operand.tmp 25], argTypes := #[48, 3, 48] }, type := 48, pos := "buddy.go:42", after := #[{ on := 7, ground := Go.Ground.data }, { on := 8, ground := Go.Ground.data }, { on := 10, ground := Go.Ground.data }], guard := none }) rfl (fun K hK => ?_) ?_
        · go_simp
          go_at_call 102
          refine (ins_any B m w1.heap.size (.slice av X.length cv) X (c : Int) _ (by simp; omega) (HO1.out.keep (S := fun _ => False) (by (repeat (first | exact Keep.refl _ _ | exact Keep.refl _ _ | refine Keep.drew ?_ | refine Keep.drewN ?_ _ | refine Keep.alloc ?_ _ | refine Keep.setNew ?_ (by omega) _)); done) (fun _ _ => id)) hml HL2.out (boxI w1.drew (c : Int)) (fun e => by have := (HO1.out.lt _ e).2; omega)).mono ?_
          rintro e w26 ⟨v26, rfl, ho26, hk26, hf26⟩
          obtain ⟨a26, c26, rfl, -⟩ := ho26.slice
          have HK26 : Hid (Keep (fun z => (Value.slice av X.length cv).ownBlock = some z) w1 w26) := Keep.trans (by (repeat (first | exact Keep.refl _ _ | exact Keep.refl _ _ | refine Keep.drew ?_ | refine Keep.drewN ?_ _ | refine Keep.alloc ?_ _ | refine Keep.setNew ?_ (by omega) _)); done) hk26
          have HO26 := Lib.hid ho26
          have HF26 : Hid (∀ x, (Value.slice a26 (insAt X m (c : Int)).length c26).ownBlock = some x → (Value.slice av X.length cv).ownBlock = some x ∨ w1.heap.size ≤ x) := fun x hx => (hf26 x hx).imp id (fun h => by simp at h; omega)
          clear ho26 hk26 hf26
          refine hK.out _ _ (.inr (by (refine keepS2 (S := fun z => (Value.slice av X.length cv).ownBlock = some z) ?_ hpl (fun e => HNP.out p e rfl) c1 fz; (repeat (first | exact HK26.out | exact Keep.refl _ _ | refine Keep.drew ?_ | refine Keep.drewN ?_ _ | refine Keep.alloc ?_ _ | refine Keep.setNew ?_ (by omega) _)); done))) (fun hS13 => ?_)
          replace hS13 := hS13.resolve_left (by decide)
          try simp only [Act.put, List.setIfInBounds_toArray, List.set_cons_zero, List.set_cons_succ]
          refine wpAnyL_take 14 (oi := { dst := some 29, op := Go.Op.indexAddr 116 (Go.Operand.tmp 28) (Go.Operand.tmp 16), type := 0, pos := "buddy.go:42", after := #[{ on := 13, ground := Go.Ground.data }, { on := 1, ground := Go.Ground.data }, { on := 0, ground := Go.Ground.phase }, { on := 1, ground := Go.Ground.phase }, { on := 2, ground := Go.Ground.phase }, { on := 3, ground := Go.Ground.phase }, { on := 4, ground := Go.Ground.phase }, { on := 5, ground := Go.Ground.phase }, { on := 6, ground := Go.Ground.phase }, { on := 7, ground := Go.Ground.phase }, { on := 8, ground := Go.Ground.phase }, { on := 9, ground := Go.Ground.phase }, { on := 10, ground := Go.Ground.phase }, { on := 11, ground := Go.Ground.phase }], guard := none }) (v := ?_) rfl (by kernel_rfl) (by kernel_rfl) (by kernel_rfl) (by kernel_rfl) (fun _ _ _ h => h) (Or.inl ⟨by rfl, ?_⟩) (by assumption) ?_
          rotate_left
          · (intro w hSw; (try dsimp only at hSw); go_split_ands; go_simp; try (with_reducible rfl))
          simp only [Act.put, List.setIfInBounds_toArray, List.set_cons_zero, List.set_cons_succ]
          refine wpAnyL_ready (rs := [15]) (by kernel_rfl) (by simp) ?_
          refine AllReadyL.cons (o := { dst := none, op := Go.Op.store 48 (Go.Operand.tmp 29) (Go.Operand.tmp 26), type := 0, pos := "buddy.go:42", after := #[{ on := 14, ground := Go.Ground.data }, { on := 11, ground := Go.Ground.data }, { on := 11, ground := Go.Ground.chain }, { on := 0, ground := Go.Ground.phase }, { on := 1, ground := Go.Ground.phase }, { on := 2, ground := Go.Ground.phase }, { on := 3, ground := Go.Ground.phase }, { on := 4, ground := Go.Ground.phase }, { on := 5, ground := Go.Ground.phase }, { on := 6, ground := Go.Ground.phase }, { on := 7, ground := Go.Ground.phase }, { on := 8, ground := Go.Ground.phase }, { on := 9, ground := Go.Ground.phase }, { on := 10, ground := Go.Ground.phase }, { on := 11, ground := Go.Ground.phase }], guard := none }) rfl (fun K hK => ?_) ?_
          · go_simp
            refine hK.out _ _ (.inl rfl) (fun _ => ?_)
            try simp only [Act.put, List.setIfInBounds_toArray, List.set_cons_zero, List.set_cons_succ]
            refine wpAnyL_done (by kernel_rfl) ?_ _
            refine NoPanic.normal ?_
            have hq := repB_set (S' := putS S k c) HR1.out hk (by rw [HVK.out]; exact HK26.out) (by rw [HLP.out, HX.out]; exact HO26.out) (fun j hj a => put_other S hj a) (by rw [HVK.out]; exact HF26.out)
            have HQ := Lib.hid hq
            clear hq
            go_wp2
            go_end0
            refine ⟨rfl, ⟨_, HQ.out.1, fun j hj x hx => ?_⟩, ?_⟩
            · by_cases e : j = k
              · subst e
                rw [if_pos rfl] at hx
                rcases HF26.out x hx with h' | h'
                · exact .inl (HG.out j hj x (by rw [HVK.out]; exact h'))
                · exact .inr (Nat.le_trans HK1.out.size h')
              · rw [if_neg e] at hx
                exact .inl (HG.out j hj x hx)
            · exact (HK1.out.mono (fun _ _ h => h.elim)).trans (HQ.out.2.mono fun z _ hz => hz.imp id (fun h => HG.out k hk z h))
          exact AllReadyL.nil
        exact AllReadyL.nil
      exact AllReadyL.nil
    refine AllReadyL.cons (o := { dst := some 28, op := Go.Op.fieldAddr 118 (Go.Operand.tmp 27) 1, type := 0, pos := "buddy.go:42", after := #[{ on := 12, ground := Go.Ground.data }], guard := none }) rfl (fun K hK => ?_) ?_
    · go_simp
      refine hK.out _ _ (.inr (by (refine keepS2 (S := fun z => (Value.slice av X.length cv).ownBlock = some z) ?_ hpl (fun e => HNP.out p e rfl) c1 fz; (repeat (first | exact HK26.out | exact Keep.refl _ _ | refine Keep.drew ?_ | refine Keep.drewN ?_ _ | refine Keep.alloc ?_ _ | refine Keep.setNew ?_ (by omega) _)); done))) (fun hS11 => ?_)
      replace hS11 := hS11.resolve_left (by decide)
      try simp only [Act.put, List.setIfInBounds_toArray, List.set_cons_zero, List.set_cons_succ]
      refine wpAnyL_ready (rs := [10]) (by kernel_rfl) (by simp) ?_
      refine AllReadyL.cons (o := { dst := some 25, op := Go.Op.buildSlice 48 1 #[(0, Go.Operand.tmp 24)], type := 48, pos := "buddy.go:42", after := #[{ on := 9, ground := Go.Ground.data }], guard := none }) rfl (fun K hK => ?_) ?_
      · go_simp
        refine hK.out _ _ (.inr (by (refine keepS2 (S := fun z => (Value.slice av X.length cv).ownBlock = some z) ?_ hpl (fun e => HNP.out p e rfl) c1 fz; (repeat (first | exact HK26.out | exact Keep.refl _ _ | refine Keep.drew ?_ | refine Keep.drewN ?_ _ | refine Keep.alloc ?_ _ | refine Keep.setNew ?_ (by omega) _)); done))) (fun hS12 => ?_)
        replace hS12 := hS12.resolve_left (by decide)
        try simp only [Act.put, List.setIfInBounds_toArray, List.set_cons_zero, List.set_cons_succ]
        refine wpAnyL_ready (rs := [11]) (by kernel_rfl) (by simp) ?_
        refine AllReadyL.cons (o := { dst := some 26, op := Go.Op.call { callee := Go.Callee.value (Go.Operand.func 102), args := #[Go.Operand.tmp 22, Go.Operand.tmp 23, Go.Operand.tmp 25], argTypes := #[48, 3, 48] }, type := 48, pos := "buddy.go:42", after := #[{ on := 7, ground := Go.Ground.data }, { on := 8, ground := Go.Ground.data }, { on := 10, ground := Go.Ground.data }], guard := none }) rfl (fun K hK => ?_) ?_
        · go_simp
          go_at_call 102
          refine (ins_any B m w1.heap.size (.slice av X.length cv) X (c : Int) _ (by simp; omega) (HO1.out.keep (S := fun _ => False) (by (repeat (first | exact Keep.refl _ _ | exact Keep.refl _ _ | refine Keep.drew ?_ | refine Keep.drewN ?_ _ | refine Keep.alloc ?_ _ | refine Keep.setNew ?_ (by omega) _)); done) (fun _ _ => id)) hml HL2.out (boxI w1.drew (c : Int)) (fun e => by have := (HO1.out.lt _ e).2; omega)).mono ?_
          rintro e w26 ⟨v26, rfl, ho26, hk26, hf26⟩
          obtain ⟨a26, c26, rfl, -⟩ := ho26.slice
          have HK26 : Hid (Keep (fun z => (Value.slice av X.length cv).ownBlock = some z) w1 w26) := Keep.trans (by (repeat (first | exact Keep.refl _ _ | exact Keep.refl _ _ | refine Keep.drew ?_ | refine Keep.drewN ?_ _ | refine Keep.alloc ?_ _ | refine Keep.setNew ?_ (by omega) _)); done) hk26
          have HO26 := Lib.hid ho26
          have HF26 : Hid (∀ x, (Value.slice a26 (insAt X m (c : Int)).length c26).ownBlock = some x → (Value.slice av X.length cv).ownBlock = some x ∨ w1.heap.size ≤ x) := fun x hx => (hf26 x hx).imp id (fun h => by simp at h; omega)
          clear ho26 hk26 hf26
          refine hK.out _ _ (.inr (by (refine keepS2 (S := fun z => (Value.slice av X.length cv).ownBlock = some z) ?_ hpl (fun e => HNP.out p e rfl) c1 fz; (repeat (first | exact HK26.out | exact Keep.refl _ _ | refine Keep.drew ?_ | refine Keep.drewN ?_ _ | refine Keep.alloc ?_ _ | refine Keep.setNew ?_ (by omega) _)); done))) (fun hS13 => ?_)
          replace hS13 := hS13.resolve_left (by decide)
          try simp only [Act.put, List.setIfInBounds_toArray, List.set_cons_zero, List.set_cons_succ]
          refine wpAnyL_take 14 (oi := { dst := some 29, op := Go.Op.indexAddr 116 (Go.Operand.tmp 28) (Go.Operand.tmp 16), type := 0, pos := "buddy.go:42", after := #[{ on := 13, ground := Go.Ground.data }, { on := 1, ground := Go.Ground.data }, { on := 0, ground := Go.Ground.phase }, { on := 1, ground := Go.Ground.phase }, { on := 2, ground := Go.Ground.phase }, { on := 3, ground := Go.Ground.phase }, { on := 4, ground := Go.Ground.phase }, { on := 5, ground := Go.Ground.phase }, { on := 6, ground := Go.Ground.phase }, { on := 7, ground := Go.Ground.phase }, { on := 8, ground := Go.Ground.phase }, { on := 9, ground := Go.Ground.phase }, { on := 10, ground := Go.Ground.phase }, { on := 11, ground := Go.Ground.phase }], guard := none }) (v := ?_) rfl (by kernel_rfl) (by kernel_rfl) (by kernel_rfl) (by kernel_rfl) (fun _ _ _ h => h) (Or.inl ⟨by rfl, ?_⟩) (by assumption) ?_
          rotate_left
          · (intro w hSw; (try dsimp only at hSw); go_split_ands; go_simp; try (with_reducible rfl))
          simp only [Act.put, List.setIfInBounds_toArray, List.set_cons_zero, List.set_cons_succ]
          refine wpAnyL_ready (rs := [15]) (by kernel_rfl) (by simp) ?_
          refine AllReadyL.cons (o := { dst := none, op := Go.Op.store 48 (Go.Operand.tmp 29) (Go.Operand.tmp 26), type := 0, pos := "buddy.go:42", after := #[{ on := 14, ground := Go.Ground.data }, { on := 11, ground := Go.Ground.data }, { on := 11, ground := Go.Ground.chain }, { on := 0, ground := Go.Ground.phase }, { on := 1, ground := Go.Ground.phase }, { on := 2, ground := Go.Ground.phase }, { on := 3, ground := Go.Ground.phase }, { on := 4, ground := Go.Ground.phase }, { on := 5, ground := Go.Ground.phase }, { on := 6, ground := Go.Ground.phase }, { on := 7, ground := Go.Ground.phase }, { on := 8, ground := Go.Ground.phase }, { on := 9, ground := Go.Ground.phase }, { on := 10, ground := Go.Ground.phase }, { on := 11, ground := Go.Ground.phase }], guard := none }) rfl (fun K hK => ?_) ?_
          · go_simp
            refine hK.out _ _ (.inl rfl) (fun _ => ?_)
            try simp only [Act.put, List.setIfInBounds_toArray, List.set_cons_zero, List.set_cons_succ]
            refine wpAnyL_done (by kernel_rfl) ?_ _
            refine NoPanic.normal ?_
            have hq := repB_set (S' := putS S k c) HR1.out hk (by rw [HVK.out]; exact HK26.out) (by rw [HLP.out, HX.out]; exact HO26.out) (fun j hj a => put_other S hj a) (by rw [HVK.out]; exact HF26.out)
            have HQ := Lib.hid hq
            clear hq
            go_wp2
            go_end0
            refine ⟨rfl, ⟨_, HQ.out.1, fun j hj x hx => ?_⟩, ?_⟩
            · by_cases e : j = k
              · subst e
                rw [if_pos rfl] at hx
                rcases HF26.out x hx with h' | h'
                · exact .inl (HG.out j hj x (by rw [HVK.out]; exact h'))
                · exact .inr (Nat.le_trans HK1.out.size h')
              · rw [if_neg e] at hx
                exact .inl (HG.out j hj x hx)
            · exact (HK1.out.mono (fun _ _ h => h.elim)).trans (HQ.out.2.mono fun z _ hz => hz.imp id (fun h => HG.out k hk z h))
          exact AllReadyL.nil
        exact AllReadyL.nil
      exact AllReadyL.nil
    exact AllReadyL.nil
  exact AllReadyL.nil

set_option maxRecDepth 100000 in
set_option maxHeartbeats 4000000 in
theorem drop_any {w : World} {B p n k c : Nat} {S : Nat → Nat → Bool} {fr : Int} {G : Nat → Prop} (hB : B ≤ w.heap.size) (h : BS w B p n S fr G) (hk : k ≤ 8) (hc : c < n) (hs : S k c = true) :
    Calls Tryz.prog 97 #[.pointer (some ⟨p, 0, none⟩), .int .i64 (c : Int), .int .i64 (k : Int)] w (PutC w B p n (dropS S k c) fr G) := by
  obtain ⟨V, hR, hG⟩ := h
  have HR := Lib.hid hR
  have HG := Lib.hid hG
  have HCT := Lib.hid (li_count S n k c hc)
  have HLP := Lib.hid (li_drop S n k c hc hs)
  have hfd : (li S n k).contains (c : Int) = true := by rw [li_contains, hs, decide_eq_true hc]; rfl
  have hlen := li_len S n k
  have hn := hR.hn
  have hkz : (0 : Int) ≤ (k : Int) := Int.natCast_nonneg k
  have hk9 : (k : Int) < 9 := by omega
  obtain ⟨m, hm⟩ : ∃ m, (ls S c k).length = m := ⟨_, rfl⟩
  have hml : m < (li S n k).length := by
    unfold li
    rw [List.length_map, ls_split S n k c hc, hs, ← hm]
    simp
  rw [hm] at HCT HLP
  have HPL := Lib.hid (place_any (c : Int) hR hk)
  rw [HCT.out, hfd] at HPL
  have hml2 : m ≤ 2000 := by omega
  have hwm : IntKind.i64.wrap ((m : Int) + 1) = (m : Int) + 1 := IntWalk.i64_in _ (by omega)
  clear hR hG hm hfd hlen
  go_enter Tryz.func97, Tryz.ntmps97
  go_wp2_with (go_at_call 96; refine HPL.out.mono ?_; rintro e w1 ⟨rfl, hk1⟩; have HK1 := Lib.hid hk1; clear hk1)
  have HR1 := Lib.hid (HR.out.keep0 HK1.out)
  have hpl := block_lt HR1.out.hp
  have c1 := HR1.out.cV hk
  have fz := HR1.out.fz (1 + k)
  obtain ⟨vk, hvk⟩ : ∃ v, V k = v := ⟨_, rfl⟩
  have HVK := Lib.hid hvk
  have HO1 : Hid (OwnL inE w1 B 3 vk (li S n k)) := by rw [← hvk]; exact HR1.out.hv k hk
  have HNP : Hid (∀ x, vk.ownBlock = some x → x ≠ p) := by rw [← hvk]; exact HR1.out.np hk
  rw [hvk] at c1
  obtain ⟨X, hX⟩ : ∃ X, li S n k = X := ⟨_, rfl⟩
  have HX := Lib.hid hX
  rw [hX] at HO1 hml
  obtain ⟨gv, cv, hav, -⟩ := HO1.out.form (by intro e; rw [e] at hml; simp at hml)
  clear hvk hX
  subst hav
  refine wp_region_noPanic ?_
  refine wp_region_L (fun w' => w'.cell? ⟨p, 1 + k, none⟩ = some (.slice (some ⟨gv, 0, none⟩) X.length cv) ∧ w'.frozen? ⟨p, 1 + k, none⟩ = false) 15 (by kernel_rfl) (by (refine keepS2 (S := fun z => (Value.slice (some ⟨gv, 0, none⟩) X.length cv).ownBlock = some z) ?_ hpl (fun e => HNP.out p e rfl) c1 fz; (repeat (first | exact HK27.out | exact Keep.refl _ _ | refine Keep.drew ?_ | refine Keep.drewN ?_ _ | refine Keep.alloc ?_ _ | refine Keep.setNew ?_ (by omega) _)); done)) (fun hS0 => ?_)
  refine wpAnyL_take 0 (oi := { dst := some 16, op := Go.Op.move (Go.Operand.tmp 0), type := 99, pos := "buddy.go:47", after := #[], guard := none }) (v := ?_) rfl (by kernel_rfl) (by kernel_rfl) (by kernel_rfl) (by kernel_rfl) (fun _ _ _ h => h) (Or.inl ⟨by rfl, ?_⟩) (by assumption) ?_
  rotate_left
  · (intro w hSw; (try dsimp only at hSw); go_split_ands; go_simp; try (with_reducible rfl))
  simp only [Act.put, List.setIfInBounds_toArray, List.set_cons_zero, List.set_cons_succ]
  refine wpAnyL_take 1 (oi := { dst := some 17, op := Go.Op.move (Go.Operand.tmp 2), type := 3, pos := "buddy.go:47", after := #[], guard := none }) (v := ?_) rfl (by kernel_rfl) (by kernel_rfl) (by kernel_rfl) (by kernel_rfl) (fun _ _ _ h => h) (Or.inl ⟨by rfl, ?_⟩) (by assumption) ?_
  rotate_left
  · (intro w hSw; (try dsimp only at hSw); go_split_ands; go_simp; try (with_reducible rfl))
  simp only [Act.put, List.setIfInBounds_toArray, List.set_cons_zero, List.set_cons_succ]
  refine wpAnyL_take 2 (oi := { dst := some 18, op := Go.Op.move (Go.Operand.tmp 0), type := 99, pos := "buddy.go:47", after := #[], guard := none }) (v := ?_) rfl (by kernel_rfl) (by kernel_rfl) (by kernel_rfl) (by kernel_rfl) (fun _ _ _ h => h) (Or.inl ⟨by rfl, ?_⟩) (by assumption) ?_
  rotate_left
  · (intro w hSw; (try dsimp only at hSw); go_split_ands; go_simp; try (with_reducible rfl))
  simp only [Act.put, List.setIfInBounds_toArray, List.set_cons_zero, List.set_cons_succ]
  refine wpAnyL_take 3 (oi := { dst := some 19, op := Go.Op.move (Go.Operand.tmp 2), type := 3, pos := "buddy.go:47", after := #[], guard := none }) (v := ?_) rfl (by kernel_rfl) (by kernel_rfl) (by kernel_rfl) (by kernel_rfl) (fun _ _ _ h => h) (Or.inl ⟨by rfl, ?_⟩) (by assumption) ?_
  rotate_left
  · (intro w hSw; (try dsimp only at hSw); go_split_ands; go_simp; try (with_reducible rfl))
  simp only [Act.put, List.setIfInBounds_toArray, List.set_cons_zero, List.set_cons_succ]
  refine wpAnyL_take 4 (oi := { dst := some 20, op := Go.Op.nilCheck (Go.Operand.tmp 18), type := 0, pos := "buddy.go:47", after := #[{ on := 2, ground := Go.Ground.data }], guard := none }) (v := ?_) rfl (by kernel_rfl) (by kernel_rfl) (by kernel_rfl) (by kernel_rfl) (fun _ _ _ h => h) (Or.inl ⟨by rfl, ?_⟩) (by assumption) ?_
  rotate_left
  · (intro w hSw; (try dsimp only at hSw); go_split_ands; go_simp; try (with_reducible rfl))
  simp only [Act.put, List.setIfInBounds_toArray, List.set_cons_zero, List.set_cons_succ]
  refine wpAnyL_take 5 (oi := { dst := some 21, op := Go.Op.fieldAddr 118 (Go.Operand.tmp 20) 1, type := 0, pos := "buddy.go:47", after := #[{ on := 4, ground := Go.Ground.data }], guard := none }) (v := ?_) rfl (by kernel_rfl) (by kernel_rfl) (by kernel_rfl) (by kernel_rfl) (fun _ _ _ h => h) (Or.inl ⟨by rfl, ?_⟩) (by assumption) ?_
  rotate_left
  · (intro w hSw; (try dsimp only at hSw); go_split_ands; go_simp; try (with_reducible rfl))
  simp only [Act.put, List.setIfInBounds_toArray, List.set_cons_zero, List.set_cons_succ]
  refine wpAnyL_take 6 (oi := { dst := some 22, op := Go.Op.indexAddr 116 (Go.Operand.tmp 21) (Go.Operand.tmp 19), type := 0, pos := "buddy.go:47", after := #[{ on := 5, ground := Go.Ground.data }, { on := 3, ground := Go.Ground.data }], guard := none }) (v := ?_) rfl (by kernel_rfl) (by kernel_rfl) (by kernel_rfl) (by kernel_rfl) (fun _ _ _ h => h) (Or.inl ⟨by rfl, ?_⟩) (by assumption) ?_
  rotate_left
  · (intro w hSw; (try dsimp only at hSw); go_split_ands; go_simp; try (with_reducible rfl))
  simp only [Act.put, List.setIfInBounds_toArray, List.set_cons_zero, List.set_cons_succ]
  refine wpAnyL_take 7 (oi := { dst := some 23, op := Go.Op.load 48 (Go.Operand.tmp 22), type := 48, pos := "buddy.go:47", after := #[{ on := 6, ground := Go.Ground.data }], guard := none }) (v := ?_) rfl (by kernel_rfl) (by kernel_rfl) (by kernel_rfl) (by kernel_rfl) (fun _ _ _ h => h) (Or.inl ⟨by rfl, ?_⟩) (by assumption) ?_
  rotate_left
  · (intro w hSw; (try dsimp only at hSw); go_split_ands; go_simp; try (with_reducible rfl))
  simp only [Act.put, List.setIfInBounds_toArray, List.set_cons_zero, List.set_cons_succ]
  refine wpAnyL_take 8 (oi := { dst := some 24, op := Go.Op.move (Go.Operand.tmp 6), type := 3, pos := "buddy.go:47", after := #[], guard := none }) (v := ?_) rfl (by kernel_rfl) (by kernel_rfl) (by kernel_rfl) (by kernel_rfl) (fun _ _ _ h => h) (Or.inl ⟨by rfl, ?_⟩) (by assumption) ?_
  rotate_left
  · (intro w hSw; (try dsimp only at hSw); go_split_ands; go_simp; try (with_reducible rfl))
  simp only [Act.put, List.setIfInBounds_toArray, List.set_cons_zero, List.set_cons_succ]
  refine wpAnyL_take 9 (oi := { dst := some 25, op := Go.Op.move (Go.Operand.tmp 6), type := 3, pos := "buddy.go:47", after := #[], guard := none }) (v := ?_) rfl (by kernel_rfl) (by kernel_rfl) (by kernel_rfl) (by kernel_rfl) (fun _ _ _ h => h) (Or.inl ⟨by rfl, ?_⟩) (by assumption) ?_
  rotate_left
  · (intro w hSw; (try dsimp only at hSw); go_split_ands; go_simp; try (with_reducible rfl))
  simp only [Act.put, List.setIfInBounds_toArray, List.set_cons_zero, List.set_cons_succ]
  refine wpAnyL_take 10 (oi := { dst := some 26, op := Go.Op.binOp Go.BinOp.add 3 (Go.Operand.tmp 25) (Go.Operand.const (Go.Value.int Go.IntKind.i64 1)) 3, type := 3, pos := "buddy.go:47", after := #[{ on := 9, ground := Go.Ground.data }], guard := none }) (v := ?_) rfl (by kernel_rfl) (by kernel_rfl) (by kernel_rfl) (by kernel_rfl) (fun _ _ _ h => h) (Or.inl ⟨by rfl, ?_⟩) (by assumption) ?_
  rotate_left
  · (intro w hSw; (try dsimp only at hSw); go_split_ands; go_simp; try (with_reducible rfl))
  simp only [Act.put, List.setIfInBounds_toArray, List.set_cons_zero, List.set_cons_succ]
  refine wpAnyL_ready (rs := [11, 12]) (by kernel_rfl) (by simp) ?_
  refine AllReadyL.cons (o := { dst := some 27, op := Go.Op.call { callee := Go.Callee.value (Go.Operand.func 105), args := #[Go.Operand.tmp 23, Go.Operand.tmp 24, Go.Operand.tmp 26], argTypes := #[48, 3, 3] }, type := 48, pos := "buddy.go:47", after := #[{ on := 7, ground := Go.Ground.data }, { on := 8, ground := Go.Ground.data }, { on := 10, ground := Go.Ground.data }], guard := none }) rfl (fun K hK => ?_) ?_
  · go_simp
    go_at_call 105
    refine (del_any B gv cv m X _ (HO1.out.keep (S := fun _ => False) (by (repeat (first | exact Keep.refl _ _ | exact Keep.refl _ _ | refine Keep.drew ?_ | refine Keep.drewN ?_ _ | refine Keep.alloc ?_ _ | refine Keep.setNew ?_ (by omega) _)); done) (fun _ _ => id)) hml).mono ?_
    rintro e w27 ⟨rfl, ho27, hk27⟩
    have HK27 : Hid (Keep (fun z => (Value.slice (some ⟨gv, 0, none⟩) X.length cv).ownBlock = some z) w1 w27) := Keep.trans (by (repeat (first | exact Keep.refl _ _ | exact Keep.refl _ _ | refine Keep.drew ?_ | refine Keep.drewN ?_ _ | refine Keep.alloc ?_ _ | refine Keep.setNew ?_ (by omega) _)); done) (hk27.mono fun z _ hz => by subst hz; rfl)
    have HO27 := Lib.hid ho27
    clear ho27 hk27
    refine hK.out _ _ (.inr (by (refine keepS2 (S := fun z => (Value.slice (some ⟨gv, 0, none⟩) X.length cv).ownBlock = some z) ?_ hpl (fun e => HNP.out p e rfl) c1 fz; (repeat (first | exact HK27.out | exact Keep.refl _ _ | refine Keep.drew ?_ | refine Keep.drewN ?_ _ | refine Keep.alloc ?_ _ | refine Keep.setNew ?_ (by omega) _)); done))) (fun hS11 => ?_)
    replace hS11 := hS11.resolve_left (by decide)
    try simp only [Act.put, List.setIfInBounds_toArray, List.set_cons_zero, List.set_cons_succ]
    refine wpAnyL_ready (rs := [12]) (by kernel_rfl) (by simp) ?_
    refine AllReadyL.cons (o := { dst := some 28, op := Go.Op.nilCheck (Go.Operand.tmp 16), type := 0, pos := "buddy.go:47", after := #[{ on := 0, ground := Go.Ground.data }], guard := none }) rfl (fun K hK => ?_) ?_
    · go_simp
      refine hK.out _ _ (.inr (by (refine keepS2 (S := fun z => (Value.slice (some ⟨gv, 0, none⟩) X.length cv).ownBlock = some z) ?_ hpl (fun e => HNP.out p e rfl) c1 fz; (repeat (first | exact HK27.out | exact Keep.refl _ _ | refine Keep.drew ?_ | refine Keep.drewN ?_ _ | refine Keep.alloc ?_ _ | refine Keep.setNew ?_ (by omega) _)); done))) (fun hS12 => ?_)
      replace hS12 := hS12.resolve_left (by decide)
      try simp only [Act.put, List.setIfInBounds_toArray, List.set_cons_zero, List.set_cons_succ]
      refine wpAnyL_ready (rs := [13]) (by kernel_rfl) (by simp) ?_
      refine AllReadyL.cons (o := { dst := some 29, op := Go.Op.fieldAddr 118 (Go.Operand.tmp 28) 1, type := 0, pos := "buddy.go:47", after := #[{ on := 12, ground := Go.Ground.data }], guard := none }) rfl (fun K hK => ?_) ?_
      · go_simp
        refine hK.out _ _ (.inr (by (refine keepS2 (S := fun z => (Value.slice (some ⟨gv, 0, none⟩) X.length cv).ownBlock = some z) ?_ hpl (fun e => HNP.out p e rfl) c1 fz; (repeat (first | exact HK27.out | exact Keep.refl _ _ | refine Keep.drew ?_ | refine Keep.drewN ?_ _ | refine Keep.alloc ?_ _ | refine Keep.setNew ?_ (by omega) _)); done))) (fun hS13 => ?_)
        replace hS13 := hS13.resolve_left (by decide)
        try simp only [Act.put, List.setIfInBounds_toArray, List.set_cons_zero, List.set_cons_succ]
        refine wpAnyL_take 14 (oi := { dst := some 30, op := Go.Op.indexAddr 116 (Go.Operand.tmp 29) (Go.Operand.tmp 17), type := 0, pos := "buddy.go:47", after := #[{ on := 13, ground := Go.Ground.data }, { on := 1, ground := Go.Ground.data }, { on := 0, ground := Go.Ground.phase }, { on := 1, ground := Go.Ground.phase }, { on := 2, ground := Go.Ground.phase }, { on := 3, ground := Go.Ground.phase }, { on := 4, ground := Go.Ground.phase }, { on := 5, ground := Go.Ground.phase }, { on := 6, ground := Go.Ground.phase }, { on := 7, ground := Go.Ground.phase }, { on := 8, ground := Go.Ground.phase }, { on := 9, ground := Go.Ground.phase }, { on := 10, ground := Go.Ground.phase }, { on := 11, ground := Go.Ground.phase }], guard := none }) (v := ?_) rfl (by kernel_rfl) (by kernel_rfl) (by kernel_rfl) (by kernel_rfl) (fun _ _ _ h => h) (Or.inl ⟨by rfl, ?_⟩) (by assumption) ?_
        rotate_left
        · (intro w hSw; (try dsimp only at hSw); go_split_ands; go_simp; try (with_reducible rfl))
        simp only [Act.put, List.setIfInBounds_toArray, List.set_cons_zero, List.set_cons_succ]
        refine wpAnyL_ready (rs := [15]) (by kernel_rfl) (by simp) ?_
        refine AllReadyL.cons (o := { dst := none, op := Go.Op.store 48 (Go.Operand.tmp 30) (Go.Operand.tmp 27), type := 0, pos := "buddy.go:47", after := #[{ on := 14, ground := Go.Ground.data }, { on := 11, ground := Go.Ground.data }, { on := 11, ground := Go.Ground.chain }, { on := 0, ground := Go.Ground.phase }, { on := 1, ground := Go.Ground.phase }, { on := 2, ground := Go.Ground.phase }, { on := 3, ground := Go.Ground.phase }, { on := 4, ground := Go.Ground.phase }, { on := 5, ground := Go.Ground.phase }, { on := 6, ground := Go.Ground.phase }, { on := 7, ground := Go.Ground.phase }, { on := 8, ground := Go.Ground.phase }, { on := 9, ground := Go.Ground.phase }, { on := 10, ground := Go.Ground.phase }, { on := 11, ground := Go.Ground.phase }], guard := none }) rfl (fun K hK => ?_) ?_
        · go_simp
          refine hK.out _ _ (.inl rfl) (fun _ => ?_)
          try simp only [Act.put, List.setIfInBounds_toArray, List.set_cons_zero, List.set_cons_succ]
          refine wpAnyL_done (by kernel_rfl) ?_ _
          refine NoPanic.normal ?_
          have hq := repB_set (S' := dropS S k c) HR1.out hk (by rw [HVK.out]; exact HK27.out) (by rw [HLP.out, HX.out]; exact HO27.out) (fun j hj a => drop_other S hj a) (by rw [HVK.out]; exact fun x hx => .inl hx)
          have HQ := Lib.hid hq
          clear hq
          go_wp2
          go_end0
          refine ⟨rfl, ⟨_, HQ.out.1, fun j hj x hx => ?_⟩, ?_⟩
          · by_cases e : j = k
            · subst e
              rw [if_pos rfl] at hx
              exact .inl (HG.out j hj x (by rw [HVK.out]; exact hx))
            · rw [if_neg e] at hx
              exact .inl (HG.out j hj x hx)
          · exact (HK1.out.mono (fun _ _ h => h.elim)).trans (HQ.out.2.mono fun z _ hz => hz.imp id (fun h => HG.out k hk z h))
        exact AllReadyL.nil
      exact AllReadyL.nil
    exact AllReadyL.nil
  refine AllReadyL.cons (o := { dst := some 28, op := Go.Op.nilCheck (Go.Operand.tmp 16), type := 0, pos := "buddy.go:47", after := #[{ on := 0, ground := Go.Ground.data }], guard := none }) rfl (fun K hK => ?_) ?_
  · go_simp
    refine hK.out _ _ (.inr (by (refine keepS2 (S := fun z => (Value.slice (some ⟨gv, 0, none⟩) X.length cv).ownBlock = some z) ?_ hpl (fun e => HNP.out p e rfl) c1 fz; (repeat (first | exact HK27.out | exact Keep.refl _ _ | refine Keep.drew ?_ | refine Keep.drewN ?_ _ | refine Keep.alloc ?_ _ | refine Keep.setNew ?_ (by omega) _)); done))) (fun hS11 => ?_)
    replace hS11 := hS11.resolve_left (by decide)
    try simp only [Act.put, List.setIfInBounds_toArray, List.set_cons_zero, List.set_cons_succ]
    refine wpAnyL_ready (rs := [11, 13]) (by kernel_rfl) (by simp) ?_
    refine AllReadyL.cons (o := { dst := some 27, op := Go.Op.call { callee := Go.Callee.value (Go.Operand.func 105), args := #[Go.Operand.tmp 23, Go.Operand.tmp 24, Go.Operand.tmp 26], argTypes := #[48, 3, 3] }, type := 48, pos := "buddy.go:47", after := #[{ on := 7, ground := Go.Ground.data }, { on := 8, ground := Go.Ground.data }, { on := 10, ground := Go.Ground.data }], guard := none }) rfl (fun K hK => ?_) ?_
    · go_simp
      go_at_call 105
      refine (del_any B gv cv m X _ (HO1.out.keep (S := fun _ => False) (by (repeat (first | exact Keep.refl _ _ | exact Keep.refl _ _ | refine Keep.drew ?_ | refine Keep.drewN ?_ _ | refine Keep.alloc ?_ _ | refine Keep.setNew ?_ (by omega) _)); done) (fun _ _ => id)) hml).mono ?_
      rintro e w27 ⟨rfl, ho27, hk27⟩
      have HK27 : Hid (Keep (fun z => (Value.slice (some ⟨gv, 0, none⟩) X.length cv).ownBlock = some z) w1 w27) := Keep.trans (by (repeat (first | exact Keep.refl _ _ | exact Keep.refl _ _ | refine Keep.drew ?_ | refine Keep.drewN ?_ _ | refine Keep.alloc ?_ _ | refine Keep.setNew ?_ (by omega) _)); done) (hk27.mono fun z _ hz => by subst hz; rfl)
      have HO27 := Lib.hid ho27
      clear ho27 hk27
      refine hK.out _ _ (.inr (by (refine keepS2 (S := fun z => (Value.slice (some ⟨gv, 0, none⟩) X.length cv).ownBlock = some z) ?_ hpl (fun e => HNP.out p e rfl) c1 fz; (repeat (first | exact HK27.out | exact Keep.refl _ _ | refine Keep.drew ?_ | refine Keep.drewN ?_ _ | refine Keep.alloc ?_ _ | refine Keep.setNew ?_ (by omega) _)); done))) (fun hS12 => ?_)
      replace hS12 := hS12.resolve_left (by decide)
      try simp only [Act.put, List.setIfInBounds_toArray, List.set_cons_zero, List.set_cons_succ]
      refine wpAnyL_ready (rs := [13]) (by kernel_rfl) (by simp) ?_
      refine AllReadyL.cons (o := { dst := some 29, op := Go.Op.fieldAddr 118 (Go.Operand.tmp 28) 1, type := 0, pos := "buddy.go:47", after := #[{ on := 12, ground := Go.Ground.data }], guard := none }) rfl (fun K hK => ?_) ?_
      · go_simp
        refine hK.out _ _ (.inr (by (refine keepS2 (S := fun z => (Value.slice (some ⟨gv, 0, none⟩) X.length cv).ownBlock = some z) ?_ hpl (fun e => HNP.out p e rfl) c1 fz; (repeat (first | exact HK27.out | exact Keep.refl _ _ | refine Keep.drew ?_ | refine Keep.drewN ?_ _ | refine Keep.alloc ?_ _ | refine Keep.setNew ?_ (by omega) _)); done))) (fun hS13 => ?_)
        replace hS13 := hS13.resolve_left (by decide)
        try simp only [Act.put, List.setIfInBounds_toArray, List.set_cons_zero, List.set_cons_succ]
        refine wpAnyL_take 14 (oi := { dst := some 30, op := Go.Op.indexAddr 116 (Go.Operand.tmp 29) (Go.Operand.tmp 17), type := 0, pos := "buddy.go:47", after := #[{ on := 13, ground := Go.Ground.data }, { on := 1, ground := Go.Ground.data }, { on := 0, ground := Go.Ground.phase }, { on := 1, ground := Go.Ground.phase }, { on := 2, ground := Go.Ground.phase }, { on := 3, ground := Go.Ground.phase }, { on := 4, ground := Go.Ground.phase }, { on := 5, ground := Go.Ground.phase }, { on := 6, ground := Go.Ground.phase }, { on := 7, ground := Go.Ground.phase }, { on := 8, ground := Go.Ground.phase }, { on := 9, ground := Go.Ground.phase }, { on := 10, ground := Go.Ground.phase }, { on := 11, ground := Go.Ground.phase }], guard := none }) (v := ?_) rfl (by kernel_rfl) (by kernel_rfl) (by kernel_rfl) (by kernel_rfl) (fun _ _ _ h => h) (Or.inl ⟨by rfl, ?_⟩) (by assumption) ?_
        rotate_left
        · (intro w hSw; (try dsimp only at hSw); go_split_ands; go_simp; try (with_reducible rfl))
        simp only [Act.put, List.setIfInBounds_toArray, List.set_cons_zero, List.set_cons_succ]
        refine wpAnyL_ready (rs := [15]) (by kernel_rfl) (by simp) ?_
        refine AllReadyL.cons (o := { dst := none, op := Go.Op.store 48 (Go.Operand.tmp 30) (Go.Operand.tmp 27), type := 0, pos := "buddy.go:47", after := #[{ on := 14, ground := Go.Ground.data }, { on := 11, ground := Go.Ground.data }, { on := 11, ground := Go.Ground.chain }, { on := 0, ground := Go.Ground.phase }, { on := 1, ground := Go.Ground.phase }, { on := 2, ground := Go.Ground.phase }, { on := 3, ground := Go.Ground.phase }, { on := 4, ground := Go.Ground.phase }, { on := 5, ground := Go.Ground.phase }, { on := 6, ground := Go.Ground.phase }, { on := 7, ground := Go.Ground.phase }, { on := 8, ground := Go.Ground.phase }, { on := 9, ground := Go.Ground.phase }, { on := 10, ground := Go.Ground.phase }, { on := 11, ground := Go.Ground.phase }], guard := none }) rfl (fun K hK => ?_) ?_
        · go_simp
          refine hK.out _ _ (.inl rfl) (fun _ => ?_)
          try simp only [Act.put, List.setIfInBounds_toArray, List.set_cons_zero, List.set_cons_succ]
          refine wpAnyL_done (by kernel_rfl) ?_ _
          refine NoPanic.normal ?_
          have hq := repB_set (S' := dropS S k c) HR1.out hk (by rw [HVK.out]; exact HK27.out) (by rw [HLP.out, HX.out]; exact HO27.out) (fun j hj a => drop_other S hj a) (by rw [HVK.out]; exact fun x hx => .inl hx)
          have HQ := Lib.hid hq
          clear hq
          go_wp2
          go_end0
          refine ⟨rfl, ⟨_, HQ.out.1, fun j hj x hx => ?_⟩, ?_⟩
          · by_cases e : j = k
            · subst e
              rw [if_pos rfl] at hx
              exact .inl (HG.out j hj x (by rw [HVK.out]; exact hx))
            · rw [if_neg e] at hx
              exact .inl (HG.out j hj x hx)
          · exact (HK1.out.mono (fun _ _ h => h.elim)).trans (HQ.out.2.mono fun z _ hz => hz.imp id (fun h => HG.out k hk z h))
        exact AllReadyL.nil
      exact AllReadyL.nil
    refine AllReadyL.cons (o := { dst := some 29, op := Go.Op.fieldAddr 118 (Go.Operand.tmp 28) 1, type := 0, pos := "buddy.go:47", after := #[{ on := 12, ground := Go.Ground.data }], guard := none }) rfl (fun K hK => ?_) ?_
    · go_simp
      refine hK.out _ _ (.inr (by (refine keepS2 (S := fun z => (Value.slice (some ⟨gv, 0, none⟩) X.length cv).ownBlock = some z) ?_ hpl (fun e => HNP.out p e rfl) c1 fz; (repeat (first | exact HK27.out | exact Keep.refl _ _ | refine Keep.drew ?_ | refine Keep.drewN ?_ _ | refine Keep.alloc ?_ _ | refine Keep.setNew ?_ (by omega) _)); done))) (fun hS12 => ?_)
      replace hS12 := hS12.resolve_left (by decide)
      try simp only [Act.put, List.setIfInBounds_toArray, List.set_cons_zero, List.set_cons_succ]
      refine wpAnyL_ready (rs := [11]) (by kernel_rfl) (by simp) ?_
      refine AllReadyL.cons (o := { dst := some 27, op := Go.Op.call { callee := Go.Callee.value (Go.Operand.func 105), args := #[Go.Operand.tmp 23, Go.Operand.tmp 24, Go.Operand.tmp 26], argTypes := #[48, 3, 3] }, type := 48, pos := "buddy.go:47", after := #[{ on := 7, ground := Go.Ground.data }, { on := 8, ground := Go.Ground.data }, { on := 10, ground := Go.Ground.data }], guard := none }) rfl (fun K hK => ?_) ?_
      · go_simp
        go_at_call 105
        refine (del_any B gv cv m X _ (HO1.out.keep (S := fun _ => False) (by (repeat (first | exact Keep.refl _ _ | exact Keep.refl _ _ | refine Keep.drew ?_ | refine Keep.drewN ?_ _ | refine Keep.alloc ?_ _ | refine Keep.setNew ?_ (by omega) _)); done) (fun _ _ => id)) hml).mono ?_
        rintro e w27 ⟨rfl, ho27, hk27⟩
        have HK27 : Hid (Keep (fun z => (Value.slice (some ⟨gv, 0, none⟩) X.length cv).ownBlock = some z) w1 w27) := Keep.trans (by (repeat (first | exact Keep.refl _ _ | exact Keep.refl _ _ | refine Keep.drew ?_ | refine Keep.drewN ?_ _ | refine Keep.alloc ?_ _ | refine Keep.setNew ?_ (by omega) _)); done) (hk27.mono fun z _ hz => by subst hz; rfl)
        have HO27 := Lib.hid ho27
        clear ho27 hk27
        refine hK.out _ _ (.inr (by (refine keepS2 (S := fun z => (Value.slice (some ⟨gv, 0, none⟩) X.length cv).ownBlock = some z) ?_ hpl (fun e => HNP.out p e rfl) c1 fz; (repeat (first | exact HK27.out | exact Keep.refl _ _ | refine Keep.drew ?_ | refine Keep.drewN ?_ _ | refine Keep.alloc ?_ _ | refine Keep.setNew ?_ (by omega) _)); done))) (fun hS13 => ?_)
        replace hS13 := hS13.resolve_left (by decide)
        try simp only [Act.put, List.setIfInBounds_toArray, List.set_cons_zero, List.set_cons_succ]
        refine wpAnyL_take 14 (oi := { dst := some 30, op := Go.Op.indexAddr 116 (Go.Operand.tmp 29) (Go.Operand.tmp 17), type := 0, pos := "buddy.go:47", after := #[{ on := 13, ground := Go.Ground.data }, { on := 1, ground := Go.Ground.data }, { on := 0, ground := Go.Ground.phase }, { on := 1, ground := Go.Ground.phase }, { on := 2, ground := Go.Ground.phase }, { on := 3, ground := Go.Ground.phase }, { on := 4, ground := Go.Ground.phase }, { on := 5, ground := Go.Ground.phase }, { on := 6, ground := Go.Ground.phase }, { on := 7, ground := Go.Ground.phase }, { on := 8, ground := Go.Ground.phase }, { on := 9, ground := Go.Ground.phase }, { on := 10, ground := Go.Ground.phase }, { on := 11, ground := Go.Ground.phase }], guard := none }) (v := ?_) rfl (by kernel_rfl) (by kernel_rfl) (by kernel_rfl) (by kernel_rfl) (fun _ _ _ h => h) (Or.inl ⟨by rfl, ?_⟩) (by assumption) ?_
        rotate_left
        · (intro w hSw; (try dsimp only at hSw); go_split_ands; go_simp; try (with_reducible rfl))
        simp only [Act.put, List.setIfInBounds_toArray, List.set_cons_zero, List.set_cons_succ]
        refine wpAnyL_ready (rs := [15]) (by kernel_rfl) (by simp) ?_
        refine AllReadyL.cons (o := { dst := none, op := Go.Op.store 48 (Go.Operand.tmp 30) (Go.Operand.tmp 27), type := 0, pos := "buddy.go:47", after := #[{ on := 14, ground := Go.Ground.data }, { on := 11, ground := Go.Ground.data }, { on := 11, ground := Go.Ground.chain }, { on := 0, ground := Go.Ground.phase }, { on := 1, ground := Go.Ground.phase }, { on := 2, ground := Go.Ground.phase }, { on := 3, ground := Go.Ground.phase }, { on := 4, ground := Go.Ground.phase }, { on := 5, ground := Go.Ground.phase }, { on := 6, ground := Go.Ground.phase }, { on := 7, ground := Go.Ground.phase }, { on := 8, ground := Go.Ground.phase }, { on := 9, ground := Go.Ground.phase }, { on := 10, ground := Go.Ground.phase }, { on := 11, ground := Go.Ground.phase }], guard := none }) rfl (fun K hK => ?_) ?_
        · go_simp
          refine hK.out _ _ (.inl rfl) (fun _ => ?_)
          try simp only [Act.put, List.setIfInBounds_toArray, List.set_cons_zero, List.set_cons_succ]
          refine wpAnyL_done (by kernel_rfl) ?_ _
          refine NoPanic.normal ?_
          have hq := repB_set (S' := dropS S k c) HR1.out hk (by rw [HVK.out]; exact HK27.out) (by rw [HLP.out, HX.out]; exact HO27.out) (fun j hj a => drop_other S hj a) (by rw [HVK.out]; exact fun x hx => .inl hx)
          have HQ := Lib.hid hq
          clear hq
          go_wp2
          go_end0
          refine ⟨rfl, ⟨_, HQ.out.1, fun j hj x hx => ?_⟩, ?_⟩
          · by_cases e : j = k
            · subst e
              rw [if_pos rfl] at hx
              exact .inl (HG.out j hj x (by rw [HVK.out]; exact hx))
            · rw [if_neg e] at hx
              exact .inl (HG.out j hj x hx)
          · exact (HK1.out.mono (fun _ _ h => h.elim)).trans (HQ.out.2.mono fun z _ hz => hz.imp id (fun h => HG.out k hk z h))
        exact AllReadyL.nil
      exact AllReadyL.nil
    exact AllReadyL.nil
  exact AllReadyL.nil

/- Part F: Buddy: carve. -/
theorem dn_half (k f : Nat) : (dn (k + 1) f + 2 ^ k ≤ f → dn k f = dn (k + 1) f + 2 ^ k) ∧ (f < dn (k + 1) f + 2 ^ k → dn k f = dn (k + 1) f) := by
  unfold dn
  rw [p2s, Nat.mul_comm 2 (2 ^ k), ← Nat.div_div_eq_div_mul]
  have h1 := Nat.div_add_mod f (2 ^ k)
  have h2 := Nat.mod_lt f (p2 k)
  generalize f % 2 ^ k = r at h1 h2
  generalize f / 2 ^ k = q at h1 ⊢
  generalize 2 ^ k = P at h1 h2 ⊢
  have h3 := Nat.div_add_mod q 2
  have h4 := Nat.mod_lt q (show 0 < 2 by decide)
  generalize q % 2 = s at h3 h4
  generalize q / 2 = m at h3 ⊢
  have e1 : m * (P * 2) = 2 * m * P := by rw [Nat.mul_comm P 2, ← Nat.mul_assoc, Nat.mul_comm m 2]
  have e2 : q * P = 2 * m * P + s * P := by rw [← h3, Nat.add_mul]
  rw [e1, e2]
  have e3 : P * q = 2 * m * P + s * P := by rw [Nat.mul_comm, e2]
  rw [e3] at h1
  clear e1 e2 e3 h3
  generalize 2 * m * P = X at *
  have hs : s = 0 ∨ s = 1 := by omega
  rcases hs with rfl | rfl
  · rw [Nat.zero_mul] at h1 ⊢; omega
  · rw [Nat.one_mul] at h1 ⊢; omega
def sibL (k f : Nat) : Nat := if dn (k + 1) f + 2 ^ k ≤ f then dn (k + 1) f else dn (k + 1) f + 2 ^ k
/-- A half is put back. -/
theorem rp_half {S : Nat → Nat → Bool} {F : Nat → Bool} {k f : Nat} (h : Rp S (subB F (k + 1) (dn (k + 1) f))) (hk : k < 8) (hb : blk F (k + 1) (dn (k + 1) f)) :
    Rp (putS S k (sibL k f)) (subB F k (dn k f)) ∧ S k (sibL k f) = false ∧ blk F k (dn k f) ∧ F (sibL k f) = true := by
  obtain ⟨g1, g2⟩ := dn_half k f
  have hm := dn_mod (k + 1) f
  have hle := dn_le (k + 1) f
  have hlt := dn_lt (k + 1) f
  have hm2 := dn_mod k f
  have hps := p2s k
  have hp := p2 k
  have hmk := mod_of_le (Nat.le_succ k) hm
  have hsm : sibL k f % 2 ^ k = 0 := by
    unfold sibL
    split
    · exact hmk
    · rw [Nat.add_mod_right]; exact hmk
  have hsd : dn (k + 1) (sibL k f) = dn (k + 1) f := by
    unfold sibL
    split
    · exact dn_self hm
    · have q1 := dn_le (k + 1) (dn (k + 1) f + 2 ^ k)
      have q2 := dn_lt (k + 1) (dn (k + 1) f + 2 ^ k)
      rcases dy (Nat.le_refl (k + 1)) (dn_mod (k + 1) (dn (k + 1) f + 2 ^ k)) hm with h' | h' <;> omega
  have hcase : (dn k f = dn (k + 1) f + 2 ^ k ∧ sibL k f = dn (k + 1) f) ∨ (dn k f = dn (k + 1) f ∧ sibL k f = dn (k + 1) f + 2 ^ k) := by
    unfold sibL
    split
    · rename_i h'; exact .inl ⟨g1 h', rfl⟩
    · rename_i h'; exact .inr ⟨g2 (by omega), rfl⟩
  generalize dn (k + 1) f = A at *
  generalize sibL k f = s at *
  generalize dn k f = d at *
  have hin : ∀ i, s ≤ i → i < s + 2 ^ k → subB F (k + 1) A i = false := fun i h1 h2 => by
    rw [← Bool.not_eq_true, subB_iff]
    exact fun h3 => h3.2 (by omega)
  have hr := rp_put h (by omega) hsm hin (fun _ => ⟨d, by rw [hsd]; omega, by rw [hsd]; omega, by omega, by
    rw [← Bool.not_eq_true, subB_iff]
    exact fun h3 => h3.2 (by omega)⟩)
  refine ⟨?_, ?_, fun i h1 h2 => hb i (by omega) (by omega), hb s (by omega) (by omega)⟩
  · have e : addB (subB F (k + 1) A) k s = subB F k d := by
      funext i
      rw [Bool.eq_iff_iff, addB_iff, subB_iff, subB_iff]
      constructor
      · rintro (⟨h1, h2⟩ | ⟨h1, h2⟩)
        · exact ⟨h1, by omega⟩
        · exact ⟨hb i (by omega) (by omega), by omega⟩
      · rintro ⟨h1, h2⟩
        by_cases h3 : s ≤ i ∧ i < s + 2 ^ k
        · exact .inr h3
        · exact .inl ⟨h1, by omega⟩
    rw [← e]; exact hr
  · rw [← Bool.not_eq_true, h k s (by omega)]
    intro hx
    have h1 := hx.2.2.1 s (Nat.le_refl _) (by omega)
    rw [hin s (Nat.le_refl _) (by omega)] at h1
    cases h1

theorem pw (k : Nat) (h : k ≤ 8) : 1 ≤ 2 ^ k ∧ 2 ^ k ≤ 256 :=
  ⟨Nat.pow_pos (by decide), by have := Nat.pow_le_pow_right (show 0 < 2 by decide) h; omega⟩
theorem pw_w (k : Nat) (h : k ≤ 8) : wrap64 ((2 : Int) ^ k) = ((2 ^ k : Nat) : Int) ∧ IntKind.i64.wrap ((2 : Int) ^ k) = ((2 ^ k : Nat) : Int) := by
  have h1 := pw k h
  have e : ((2 ^ k : Nat) : Int) = (2 : Int) ^ k := by simp
  rw [← e]
  exact ⟨IntWalk.wrap64_in _ (by omega), IntWalk.i64_in _ (by omega)⟩

/-- The boxes of carve: the frame, where we are, the object. -/
structure Bx (w : World) (n1 n2 n3 p : Nat) (f a : Nat) : Prop where
  b1 : w.heap[n1]? = some (.cells #[.int .i64 (f : Int)] 3 (0, 0))
  b2 : w.heap[n2]? = some (.cells #[.int .i64 (a : Int)] 3 (0, 0))
  b3 : w.heap[n3]? = some (.cells #[.pointer (some ⟨p, 0, none⟩)] 99 (0, 0))
theorem Bx.keep {w w' : World} {n1 n2 n3 p f a : Nat} {T : Nat → Prop} (h : Bx w n1 n2 n3 p f a) (k : Keep T w w') (h1 : ¬ T n1) (h2 : ¬ T n2) (h3 : ¬ T n3) : Bx w' n1 n2 n3 p f a :=
  ⟨(k.block _ (block_lt h.b1) h1).trans h.b1, (k.block _ (block_lt h.b2) h2).trans h.b2, (k.block _ (block_lt h.b3) h3).trans h.b3⟩
theorem cell1 {w : World} {b e : Nat} {x : Value} {z : Nat × Nat} (h : w.heap[b]? = some (.cells #[x] e z)) : w.cell? ⟨b, 0, none⟩ = some x := by simp [cell_block h]

theorem half_close {w w5 w6 : World} {B p n n1 n2 n3 f a a' : Nat} {S' : Nat → Nat → Bool} {fr : Int} {G : Nat → Prop} (h5 : BS w5 B p n S' fr (fun x => G x ∨ w.heap.size ≤ x)) (K5 : Keep (fun z => z = p ∨ G z) w w5) (hx : Bx w n1 n2 n3 p f a) (hx5 : Bx w5 n1 n2 n3 p f a) (hn2 : ¬ (n2 = p ∨ G n2)) (h12 : n1 ≠ n2) (h23 : n3 ≠ n2)
    (K6 : Keep (fun z => z = n2) w5 w6) (h6 : w6.heap[n2]? = some (.cells #[.int .i64 (a' : Int)] 3 (0, 0))) :
    BS w6 B p n S' fr (fun x => G x ∨ w.heap.size ≤ x) ∧ Bx w6 n1 n2 n3 p f a' ∧ Keep (fun z => z = p ∨ G z ∨ z = n2) w w6 := by
  have hl := block_lt hx.b2
  refine ⟨h5.keep K6 (fun e => hn2 (.inl e.symm)) (fun x hg e => ?_), ⟨(K6.block _ (block_lt hx5.b1) h12).trans hx5.b1, h6, (K6.block _ (block_lt hx5.b3) h23).trans hx5.b3⟩, (K5.mono fun z _ h => h.imp id .inl).on K6 fun z _ e => .inr (.inr e)⟩
  subst e
  rcases hg with hg | hg
  · exact hn2 (.inr hg)
  · omega

set_option maxRecDepth 100000 in
set_option maxHeartbeats 2000000 in
theorem half_any {w : World} {B p n k f a n1 n2 n3 : Nat} {S : Nat → Nat → Bool} {fr : Int} {G : Nat → Prop} (hB : B ≤ w.heap.size) (h : BS w B p n S fr G) (hk : k ≤ 8) (hx : Bx w n1 n2 n3 p f a) (hn1 : ¬ (n1 = p ∨ G n1)) (hn2 : ¬ (n2 = p ∨ G n2)) (hn3 : ¬ (n3 = p ∨ G n3)) (h12 : n1 ≠ n2) (h23 : n3 ≠ n2)
    (s a' : Nat) (hs : s < n) (hS : S k s = false) (hf : f ≤ 1024) (ha : a ≤ 1024) (hcase : (a + 2 ^ k ≤ f ∧ s = a ∧ a' = a + 2 ^ k) ∨ (f < a + 2 ^ k ∧ s = a + 2 ^ k ∧ a' = a)) :
    Calls Tryz.prog 100 #[.int .i64 (k : Int), .pointer (some ⟨n1, 0, none⟩), .pointer (some ⟨n2, 0, none⟩), .pointer (some ⟨n3, 0, none⟩)] w fun e w' => e = .returned (.tuple #[]) ∧ BS w' B p n (putS S k s) fr (fun x => G x ∨ w.heap.size ≤ x) ∧ Bx w' n1 n2 n3 p f a' ∧ Keep (fun z => z = p ∨ G z ∨ z = n2) w w' := by
  have HB := Lib.hid h
  have HX := Lib.hid hx
  have c1 := cell1 hx.b1
  have c2 := cell1 hx.b2
  have c3 := cell1 hx.b3
  have hp1 := pw k hk
  obtain ⟨e1, e2⟩ := pw_w k hk
  obtain ⟨P, hP⟩ : ∃ P, 2 ^ k = P := ⟨_, rfl⟩
  rw [hP] at hp1 e1 e2 hcase
  clear hP
  have a1 : IntKind.i64.wrap ((a : Int) + (P : Int)) = ((a + P : Nat) : Int) := by rw [← Int.natCast_add]; exact IntWalk.i64_in _ (by omega)
  have HN := Lib.hid (And.intro hn1 (And.intro hn2 hn3))
  have HPN : Hid (n1 ≠ n2 ∧ n3 ≠ n2) := ⟨h12, h23⟩
  have hput : Hid (∀ W, Keep (fun _ => False) w W → Calls Tryz.prog 90 #[.pointer (some ⟨p, 0, none⟩), .int .i64 (s : Int), .int .i64 (k : Int)] W (PutC W B p n (putS S k s) fr G)) :=
    fun W K => put_any (Nat.le_trans hB K.size) (HB.out.keep0 K) hk hs hS
  have hkz : (0 : Int) ≤ (k : Int) := Int.natCast_nonneg k
  clear h hx hn1 hn2 hn3 h12 h23 hS
  rcases hcase with ⟨g1, rfl, rfl⟩ | ⟨g1, rfl, rfl⟩
  · obtain ⟨A, hA⟩ : ∃ A, s + P = A := ⟨_, rfl⟩
    rw [hA] at g1 a1 ⊢
    clear hA
    have t1 : decide ((A : Int) ≤ (f : Int)) = true := decide_eq_true (by omega)
    go_enter Tryz.func100, Tryz.ntmps100
    go_wp2
    go_quiet (fail)
    go_wp2_with fail
    refine (hput.out _ (by (repeat (first | exact Keep.refl _ _ | exact Keep.refl _ _ | refine Keep.drew ?_ | refine Keep.drewN ?_ _ | refine Keep.alloc ?_ _ | refine Keep.setNew ?_ (by omega) _)); done)).mono ?_
    rintro e w5 ⟨rfl, hb5, hk5⟩
    have HK5 : Hid (Keep (fun z => z = p ∨ G z) w w5) := Keep.trans (by (repeat (first | exact Keep.refl _ _ | exact Keep.refl _ _ | refine Keep.drew ?_ | refine Keep.drewN ?_ _ | refine Keep.alloc ?_ _ | refine Keep.setNew ?_ (by omega) _)); done) hk5
    have HX5 := Lib.hid (HX.out.keep HK5.out HN.out.1 HN.out.2.1 HN.out.2.2)
    have HB5 := Lib.hid hb5
    have d2 := cell1 HX5.out.b2
    have fz2 : w5.frozen? ⟨n2, 0, none⟩ = false := frozen_block HX5.out.b2
    clear hb5 hk5 c1 c2 c3
    go_wp2
    go_region
    all_goals
      go_wp2
      go_end0
      have KP := ((Keep.refl (fun z => z = n2) w5).drew).setCell (p := ⟨n2, 0, none⟩) (fun _ => rfl) (.int .i64 (A : Int))
      exact ⟨rfl, half_close HB5.out HK5.out HX.out HX5.out HN.out.2.1 HPN.out.1 HPN.out.2 KP (by first | (rw [heap_setCell_eq (w := World.drew _) HX5.out.b2]; rfl) | exact (heap_setCell_eq (i := 0) (u := .int .i64 (A : Int)) HX5.out.b2).trans rfl)⟩
  · obtain ⟨A, hA⟩ : ∃ A, a' + P = A := ⟨_, rfl⟩
    rw [hA] at g1 a1 hput hs ⊢
    clear hA
    have t1 : decide ((A : Int) ≤ (f : Int)) = false := decide_eq_false (by omega)
    go_enter Tryz.func100, Tryz.ntmps100
    go_wp2
    go_quiet (fail)
    go_wp2_with fail
    generalize hwq : World.drewN _ _ = wq
    have HKq : Hid (Keep (fun _ => False) w wq) := by rw [← hwq]; exact (by (repeat (first | exact Keep.refl _ _ | exact Keep.refl _ _ | refine Keep.drew ?_ | refine Keep.drewN ?_ _ | refine Keep.alloc ?_ _ | refine Keep.setNew ?_ (by omega) _)); done)
    have hsz : wq.heap.size = w.heap.size := by rw [← hwq]; rfl
    have HSZ := Lib.hid hsz
    clear hwq c1 c2 c3 hsz
    have HXq := Lib.hid (HX.out.keep HKq.out id id id)
    have c2 := cell1 HXq.out.b2
    have c3 := cell1 HXq.out.b3
    go_region_held3 (fun w' => w'.cell? ⟨n2, 0, none⟩ = some (.int .i64 (a' : Int)) ∧ w'.cell? ⟨n3, 0, none⟩ = some (.pointer (some ⟨p, 0, none⟩)))
      (first | (with_reducible exact And.intro c2 c3) | (with_reducible exact And.intro d2 d3) | exact And.intro c2 c3)
      (first | (go_at_call 90; refine (hput.out _ (HKq.out.trans (by (repeat (first | exact Keep.refl _ _ | exact Keep.refl _ _ | refine Keep.drew ?_ | refine Keep.drewN ?_ _ | refine Keep.alloc ?_ _ | refine Keep.setNew ?_ (by omega) _)); done))).mono ?_; rintro e w5 ⟨rfl, hb5, hk5⟩; have HK5 : Hid (Keep (fun z => z = p ∨ G z) w w5) := Keep.trans (HKq.out.mono (fun _ _ h => h.elim)) (Keep.trans (by (repeat (first | exact Keep.refl _ _ | exact Keep.refl _ _ | refine Keep.drew ?_ | refine Keep.drewN ?_ _ | refine Keep.alloc ?_ _ | refine Keep.setNew ?_ (by omega) _)); done) hk5); have HX5 := Lib.hid (HX.out.keep HK5.out HN.out.1 HN.out.2.1 HN.out.2.2); have d2 := cell1 HX5.out.b2; have d3 := cell1 HX5.out.b3; have HB5 := Lib.hid hb5; clear hb5 hk5) | fail)
    go_wp2
    go_end0
    refine ⟨rfl, half_close (w5 := w5) (HB5.out.mono (fun x h => h.imp id (fun h => ?_))) HK5.out HX.out HX5.out HN.out.2.1 HPN.out.1 HPN.out.2 (Keep.refl _ _) HX5.out.b2⟩
    have := HSZ.out
    simp at h
    omega

/- Part G: Buddy: carve. -/
theorem fr_sub (fr : Int) (P : Nat) (h : -1000 ≤ fr ∧ fr ≤ 90000) (h1 : P ≤ 256) : IntKind.i64.wrap (fr - (P : Int)) = fr - (P : Int) ∧ -100000 ≤ fr - (P : Int) ∧ fr - (P : Int) ≤ 100000 := ⟨IntWalk.i64_in _ (by omega), by omega, by omega⟩
/-- What carve has done. -/
def CarveC (w : World) (B p n : Nat) (F : Nat → Bool) (o f : Nat) (fr : Int) (G : Nat → Prop) (e : Ending) (w' : World) : Prop :=
  e = .returned (.tuple #[]) ∧ ∃ S', BS w' B p n S' (fr - (2 ^ o : Nat)) (fun x => G x ∨ w.heap.size ≤ x) ∧ Rp S' (subB F o f) ∧ Keep (fun z => z = p ∨ G z) w w'

theorem bs_free {w w' : World} {B p n : Nat} {S : Nat → Nat → Bool} {fr fr' : Int} {G : Nat → Prop} (h : BS w B p n S fr G) (hf : -100000 ≤ fr' ∧ fr' ≤ 100000) (K : Keep (fun _ => False) w w') :
    BS (w'.setCell ⟨p, 10, none⟩ (.int .i64 fr')) B p n S fr' G ∧ Keep (fun z => z = p) w (w'.setCell ⟨p, 10, none⟩ (.int .i64 fr')) := by
  obtain ⟨V, h1, h2⟩ := h
  have h3 := h1.keep0 K
  have KP := (Keep.refl (fun z => z = p) w').setCell (p := ⟨p, 10, none⟩) (fun _ => rfl) (.int .i64 fr')
  refine ⟨⟨V, ⟨?_, fun j hj => (h3.hv j hj).keep KP (h3.np hj), h1.ap, h1.hn, hf⟩, h2⟩, (K.mono (fun _ _ h => h.elim)).trans KP⟩
  rw [heap_setCell_eq h3.hp]; rfl

theorem BS.lt {w : World} {B p n : Nat} {S : Nat → Nat → Bool} {fr : Int} {G : Nat → Prop} (h : BS w B p n S fr G) : BS w B p n S fr (fun x => G x ∧ x < w.heap.size) := by
  obtain ⟨V, h1, h2⟩ := h
  exact ⟨V, h1, fun j hj x hx => ⟨h2 j hj x hx, ((h1.hv j hj).lt x hx).2⟩⟩
/-- Rows that are neither of the boxes. -/
def Gx (G : Nat → Prop) (A n1 n2 n3 : Nat) (x : Nat) : Prop := G x ∨ (A ≤ x ∧ x ≠ n1 ∧ x ≠ n2 ∧ x ≠ n3)

set_option maxRecDepth 100000 in
set_option maxHeartbeats 4000000 in
theorem carve_any {w : World} {B p n K b o f : Nat} {S : Nat → Nat → Bool} {F : Nat → Bool} {fr : Int} {G : Nat → Prop} (hB : B ≤ w.heap.size) (h : BS w B p n S fr G) (hR : Rp S F) (hm : mx F K b) (ho : o ≤ K) (hfo : f % 2 ^ o = 0) (hf1 : b ≤ f) (hf2 : f + 2 ^ o ≤ b + 2 ^ K)
    (hF : ∀ i, F i = true → i < n) (hG : ∀ x, G x → x < w.heap.size) (hfr : -1000 ≤ fr ∧ fr ≤ 90000) :
    Calls Tryz.prog 88 #[.pointer (some ⟨p, 0, none⟩), .agg #[.int .i64 (b : Int), .int .i64 (K : Int)], .int .i64 (f : Int), .int .i64 (o : Int)] w (CarveC w B p n F o f fr G) := by
  have hK8 := hm.1
  have hpl : p < w.heap.size := by obtain ⟨V, h1, _⟩ := h; exact block_lt h1.hp
  have hn1024 : n ≤ 1024 := by obtain ⟨V, h1, _⟩ := h; exact h1.hn
  have hpo := p2 o
  have hfn : f < n := hF f (hm.2.2.1 f hf1 (by omega))
  have hbn : b < n := by omega
  have hSb : S K b = true := (hR K b hK8).mpr hm
  have hdK : dn K f = b := by
    have q1 := dn_le K f
    have q2 := dn_lt K f
    rcases dy (Nat.le_refl K) (dn_mod K f) hm.2.1 with h' | h' <;> omega
  have hdo : dn o f = f := dn_self hfo
  have HB := Lib.hid h
  have HR0 := Lib.hid (rp_drop hR hm)
  have HBL := Lib.hid hm.2.2.1
  have HFF := Lib.hid hF
  have HG := Lib.hid hG
  have hpo2 := pw o (by omega)
  obtain ⟨z1, z2⟩ := pw_w o (by omega)
  have HDK := Lib.hid hdK
  have HDO := Lib.hid hdo
  have hKz : (0 : Int) ≤ (K : Int) := Int.natCast_nonneg K
  have hw1 : IntKind.i64.wrap ((K : Int) - 1) = (K : Int) - 1 := IntWalk.i64_in _ (by omega)
  have HSB := Lib.hid hSb
  have K1 : Hid (Keep (fun _ => False) w (((w.alloc (.cells #[.pointer (some ⟨p, 0, none⟩)] 99)).alloc (.cells #[.int .i64 (b : Int), .int .i64 (K : Int)] 96)).alloc (.cells #[.int .i64 (f : Int)] 3))) := (((Keep.refl _ _).alloc _).alloc _).alloc _
  clear h hR hm hfo hf1 hf2 hF hG hdK hdo hSb
  go_enter Tryz.func88, Tryz.ntmps88
  go_wp2_with fail
  obtain ⟨w1, hw1'⟩ : ∃ w1, ((w.alloc (.cells #[.pointer (some ⟨p, 0, none⟩)] 99)).alloc (.cells #[.int .i64 (b : Int), .int .i64 (K : Int)] 96)).alloc (.cells #[.int .i64 (f : Int)] 3) = w1 := ⟨_, rfl⟩
  have hx3 : w1.heap[w.heap.size]? = some (.cells #[.pointer (some ⟨p, 0, none⟩)] 99 (0, 0)) := by
    rw [← hw1', heap_alloc_at, World.size_alloc, World.size_alloc, if_neg (by omega), heap_alloc_at, World.size_alloc, if_neg (by omega)]; exact heap_alloc_new w _
  have hxb : w1.heap[w.heap.size + 1]? = some (.cells #[.int .i64 (b : Int), .int .i64 (K : Int)] 96 (0, 0)) := by
    rw [← hw1', heap_alloc_at, World.size_alloc, World.size_alloc, if_neg (by omega)]
    have := heap_alloc_new (w.alloc (.cells #[.pointer (some ⟨p, 0, none⟩)] 99)) (.cells #[.int .i64 (b : Int), .int .i64 (K : Int)] 96)
    rw [World.size_alloc] at this; exact this
  have hx1 : w1.heap[w.heap.size + 1 + 1]? = some (.cells #[.int .i64 (f : Int)] 3 (0, 0)) := by
    rw [← hw1']
    have := heap_alloc_new ((w.alloc (.cells #[.pointer (some ⟨p, 0, none⟩)] 99)).alloc (.cells #[.int .i64 (b : Int), .int .i64 (K : Int)] 96)) (.cells #[.int .i64 (f : Int)] 3)
    rw [World.size_alloc, World.size_alloc] at this; exact this
  have hsz1 : w1.heap.size = w.heap.size + 3 := by rw [← hw1', World.size_alloc, World.size_alloc, World.size_alloc]
  rw [hw1'] at K1 ⊢
  clear hw1'
  have HB1 := Lib.hid (HB.out.keep0 K1.out)
  refine (drop_any (Nat.le_trans hB K1.out.size) HB1.out hK8 hbn HSB.out).mono ?_
  rintro e w5 ⟨rfl, hb5, hk5⟩
  obtain ⟨n0, hn0⟩ : ∃ n0, w.heap.size = n0 := ⟨_, rfl⟩
  have HN0 := Lib.hid hn0
  have hGn : ∀ z, n0 ≤ z → ¬ (z = p ∨ G z) := fun z hz hh => by
    rcases hh with hh | hh
    · omega
    · have := HG.out z hh; omega
  have HGN := Lib.hid hGn
  rw [hn0] at hx3 hxb hx1 hsz1 ⊢
  have y3 := (hk5.block n0 (block_lt hx3) (hGn _ (by omega))).trans hx3
  have yb := (hk5.block (n0 + 1) (block_lt hxb) (hGn _ (by omega))).trans hxb
  have y1 := (hk5.block (n0 + 1 + 1) (block_lt hx1) (hGn _ (by omega))).trans hx1
  have HK5 := Lib.hid hk5
  have hs5 := hk5.size
  have c0 : w5.cell? ⟨n0 + 1, 0, none⟩ = some (.int .i64 (b : Int)) := by simp [cell_block yb]
  have c1 : w5.cell? ⟨n0 + 1, 1, none⟩ = some (.int .i64 (K : Int)) := by simp [cell_block yb]
  have HXX : Hid (Bx (w5.alloc (.cells #[.int .i64 (b : Int)] 3)) (n0 + 1 + 1) w5.heap.size n0 p f b ∧ BS (w5.alloc (.cells #[.int .i64 (b : Int)] 3)) B p n (dropS S K b) fr (Gx G n0 (n0 + 1 + 1) w5.heap.size n0) ∧ Keep (fun z => z = p ∨ G z ∨ n0 ≤ z) w (w5.alloc (.cells #[.int .i64 (b : Int)] 3))) := by
    have KA : Keep (fun _ => False) w5 (w5.alloc (.cells #[.int .i64 (b : Int)] 3)) := (Keep.refl _ _).alloc _
    refine ⟨⟨(KA.block _ (block_lt y1) id).trans y1, heap_alloc_new w5 _, (KA.block _ (block_lt y3) id).trans y3⟩, (hb5.lt.keep0 KA).mono fun x hx => ?_, ((K1.out.mono (fun _ _ h => h.elim)).trans (hk5.mono fun z _ h => h.imp id .inl)).trans (KA.mono fun _ _ h => h.elim)⟩
    rcases hx with ⟨hx | hx, hx2⟩
    · exact .inl hx
    · exact .inr ⟨by omega, by omega, by omega, by omega⟩
  have yb2 : (w5.alloc (.cells #[.int .i64 (b : Int)] 3)).heap[n0 + 1]? = some (.cells #[.int .i64 (b : Int), .int .i64 (K : Int)] 96 (0, 0)) := (((Keep.refl (fun _ => False) w5).alloc _).block _ (block_lt yb) id).trans yb
  have d1 : (w5.alloc (.cells #[.int .i64 (b : Int)] 3)).cell? ⟨n0 + 1, 1, none⟩ = some (.int .i64 (K : Int)) := by simp [cell_block yb2]
  clear hk5 hb5 hGn hx3 hxb hx1 hn0 y3 yb y1 yb2
  go_wp2
  generalize hw6 : w5.alloc (.cells #[.int .i64 (b : Int)] 3) = w6 at HXX d1 ⊢
  obtain ⟨n2, hn2⟩ : ∃ n2, w5.heap.size = n2 := ⟨_, rfl⟩
  rw [hn2] at HXX ⊢
  have hn2' : n0 + 3 ≤ n2 := by omega
  clear hw6 hn2 hs5 c0 c1 d1
  go_loopw [10] (fun i wr => ∃ j : Nat, o ≤ j ∧ j ≤ K ∧ (∃ t : Int, t = (j : Int) - 1 ∧ i = .int .i64 t) ∧ ∃ S', Rp S' (subB F j (dn j f)) ∧ blk F j (dn j f) ∧ BS wr B p n S' fr (Gx G n0 (n0 + 1 + 1) n2 n0) ∧ Bx wr (n0 + 1 + 1) n2 n0 p f (dn j f) ∧ Keep (fun z => z = p ∨ G z ∨ n0 ≤ z) w wr) (fun i _ => (intOf i + 1).toNat)
  case atStart => exact ⟨K, ho, Nat.le_refl _, ⟨_, rfl, rfl⟩, _, by rw [HDK.out]; exact HR0.out, by rw [HDK.out]; exact HBL.out, HXX.out.2.1, by rw [HDK.out]; exact HXX.out.1, HXX.out.2.2⟩
  case round =>
    obtain ⟨j, hoj, hjK, ⟨t, ht, rfl⟩, S', hR', hbl, hbs, hbx, hkeep⟩ := hrel
    have HR' := Lib.hid hR'
    have HBL' := Lib.hid hbl
    have HBS := Lib.hid hbs
    have HBX := Lib.hid hbx
    have HK := Lib.hid hkeep
    clear hR' hbl hbs hbx hkeep
    by_cases hlt : o < j
    · obtain ⟨k, rfl⟩ : ∃ k, j = k + 1 := ⟨j - 1, by omega⟩
      have htk : t = (k : Int) := by omega
      subst htk
      have hk8 : k < 8 := by omega
      obtain ⟨r1, r2, r3, r4⟩ := rp_half HR'.out hk8 HBL'.out
      have HR2 := Lib.hid (And.intro r1 r3)
      have hsn := HFF.out _ r4
      obtain ⟨g1, g2⟩ := dn_half k f
      have hsb : Hid (BS wr B p n S' fr (Gx G n0 (n0 + 1 + 1) n2 n0)) := HBS.out
      have hcase : (dn (k + 1) f + 2 ^ k ≤ f ∧ sibL k f = dn (k + 1) f ∧ dn k f = dn (k + 1) f + 2 ^ k) ∨ (f < dn (k + 1) f + 2 ^ k ∧ sibL k f = dn (k + 1) f + 2 ^ k ∧ dn k f = dn (k + 1) f) := by
        unfold sibL
        by_cases e : dn (k + 1) f + 2 ^ k ≤ f
        · rw [if_pos e]; exact .inl ⟨e, rfl, g1 e⟩
        · rw [if_neg e]; exact .inr ⟨by omega, rfl, g2 (by omega)⟩
      have hdl := dn_le (k + 1) f
      have hno : ∀ z, n0 ≤ z → (z = n0 + 1 + 1 ∨ z = n2 ∨ z = n0) → ¬ (z = p ∨ Gx G n0 (n0 + 1 + 1) n2 n0 z) := fun z hz hz2 hh => by
        rcases hh with hh | hh | hh
        · have := HN0.out; omega
        · have := HG.out z hh; have := HN0.out; omega
        · omega
      have HALF := Lib.hid (half_any (Nat.le_trans hB HK.out.size) HBS.out (by omega) HBX.out (hno _ (by omega) (.inl rfl)) (hno _ (by omega) (.inr (.inl rfl))) (hno _ (by omega) (.inr (.inr rfl))) (by omega) (by omega) (sibL k f) (dn k f) hsn r2 (by omega) (by omega) hcase)
      clear r1 r2 r3 r4 g1 g2 hcase hno hsb ht
      go_wp2_with fail
      refine HALF.out.mono ?_
      rintro e w7 ⟨rfl, hb7, hx7, hk7⟩
      have HB7 : Hid (BS w7 B p n (putS S' k (sibL k f)) fr (Gx G n0 (n0 + 1 + 1) n2 n0)) := hb7.mono fun x hx => by
        rcases hx with hx | hx
        · exact hx
        · have := block_lt HBX.out.b1; have := block_lt HBX.out.b2; have := block_lt HBX.out.b3
          exact .inr ⟨by omega, by omega, by omega, by omega⟩
      have HX7 := Lib.hid hx7
      have HK7 : Hid (Keep (fun z => z = p ∨ G z ∨ n0 ≤ z) w w7) := HK.out.on hk7 fun z hz e => by
        rcases e with e | e | e
        · exact .inl e
        · rcases e with e | e
          · exact .inr (.inl e)
          · exact .inr (.inr e.1)
        · exact .inr (.inr (by omega))
      clear hb7 hx7 hk7
      go_wp2
      go_roundw
      case rel => exact ⟨k, by omega, by omega, ⟨(k : Int) - 1, rfl, by go_num⟩, _, HR2.out.1, HR2.out.2, HB7.out, HX7.out, HK7.out⟩
      case measure => (simp [intOf]; try omega)
    · obtain rfl : j = o := by omega
      have c3 := cell1 HBX.out.b3
      obtain ⟨V, hV, hGV⟩ := HBS.out
      have c10 := hV.c10
      have fz := hV.fz 10
      have hRo : Hid (Rp S' (subB F j f)) := by have := HR'.out; rw [HDO.out] at this; exact this
      obtain ⟨P, hP⟩ : ∃ P, 2 ^ j = P := ⟨_, rfl⟩
      have HP := Lib.hid hP
      rw [hP] at hpo2 z1 z2
      obtain ⟨a1, a2⟩ := fr_sub fr P hfr hpo2.2
      have HA2 := Lib.hid a2
      clear a2
      have htj : t < (j : Int) := by omega
      clear hV hGV hP ht
      go_wp2
      go_region
      all_goals
        go_wp2
        go_end0
        unfold CarveC
        rw [HP.out]
        have hq := bs_free (fr' := fr - (P : Int)) HBS.out HA2.out (Keep.drew (Keep.refl (fun _ => False) wr))
        refine ⟨rfl, S', hq.1.mono fun x hx => ?_, hRo.out, ?_⟩
        · rw [HN0.out]
          exact hx.imp id (fun h => h.1)
        · refine Keep.on (T := fun z => z = p) ?_ hq.2 (fun z _ e => .inl e)
          exact HK.out.mono fun z hz h => by
            rcases h with h | h | h
            · exact .inl h
            · exact .inr h
            · have := HN0.out; omega

/- Part H: Buddy: holder, Has, wrong, Free, Greatest. -/
theorem anot_pow : ∀ o : Fin 9, ∀ f : Fin 1024, bits .andNot .i64 (f.val : Int) (((2 ^ o.val : Nat) : Int) - 1) = ((f.val / 2 ^ o.val * 2 ^ o.val : Nat) : Int) := by decide +kernel
theorem and_pow : ∀ o : Fin 9, ∀ f : Fin 1024, bits .and .i64 (f.val : Int) (((2 ^ o.val : Nat) : Int) - 1) = ((f.val % 2 ^ o.val : Nat) : Int) := by decide +kernel
theorem p_sub (P : Nat) (h : 1 ≤ P ∧ P ≤ 256) : IntKind.i64.wrap ((P : Int) - 1) = (P : Int) - 1 ∧ wrap64 ((P : Int) - 1) = (P : Int) - 1 := ⟨IntWalk.i64_in _ (by omega), IntWalk.wrap64_in _ (by omega)⟩
/-- 1 << k, less 1, and what and-not and and make of it. -/
theorem bits_k (k f : Nat) (hk : k ≤ 8) (hf : f < 1024) : ∃ P : Nat, P = 2 ^ k ∧ wrap64 ((2 : Int) ^ k) = (P : Int) ∧ IntKind.i64.wrap ((2 : Int) ^ k) = (P : Int) ∧ (1 ≤ P ∧ P ≤ 256) ∧ IntKind.i64.wrap ((P : Int) - 1) = (P : Int) - 1 ∧ wrap64 ((P : Int) - 1) = (P : Int) - 1 ∧
    bits .andNot .i64 (f : Int) ((P : Int) - 1) = ((dn k f : Nat) : Int) ∧ bits .and .i64 (f : Int) ((P : Int) - 1) = ((f % P : Nat) : Int) := by
  obtain ⟨e1, e2⟩ := pw_w k hk
  have h1 := pw k hk
  obtain ⟨s1, s2⟩ := p_sub (2 ^ k) h1
  exact ⟨2 ^ k, rfl, e1, e2, h1, s1, s2, anot_pow ⟨k, by omega⟩ ⟨f, hf⟩, and_pow ⟨k, by omega⟩ ⟨f, hf⟩⟩

/-- The result's box is the call's own. -/
theorem keep_two {w w5 : World} {n4 : Nat} {u v : Value} (hn : w.heap.size = n4) (K : Keep (fun _ => False) w w5) : Keep (fun _ => False) w ((w5.setCell ⟨n4, 0, none⟩ u).setCell ⟨n4, 1, none⟩ v) :=
  (K.setCell (fun h => absurd h (by simp only; omega)) u).setCell (fun h => absurd h (by simp only; omega)) v
theorem two_cells {w5 : World} {n4 e : Nat} {a b u v : Value} (h : w5.heap[n4]? = some (.cells #[a, b] e (0, 0))) : ((w5.setCell ⟨n4, 0, none⟩ u).setCell ⟨n4, 1, none⟩ v).cell? ⟨n4, 0, none⟩ = some u ∧ ((w5.setCell ⟨n4, 0, none⟩ u).setCell ⟨n4, 1, none⟩ v).cell? ⟨n4, 1, none⟩ = some v := by
  have h2 := heap_setCell_eq (i := 1) (u := v) (heap_setCell_eq (i := 0) (u := u) h)
  simp [cell_block h2]
/-- What holder answers. -/
def HoldC (F : Nat → Bool) (f : Nat) (w : World) (e : Ending) (w' : World) : Prop :=
  ((∃ k, mx F k (dn k f) ∧ e = .returned (.tuple #[.agg #[.int .i64 (dn k f : Nat), .int .i64 (k : Nat)], .bool true])) ∨ (F f = false ∧ e = .returned (.tuple #[.agg #[.int .i64 0, .int .i64 0], .bool false]))) ∧ Keep (fun _ => False) w w'

set_option maxRecDepth 100000 in
set_option maxHeartbeats 2000000 in
theorem holder_any {w : World} {B p n f : Nat} {S : Nat → Nat → Bool} {F : Nat → Bool} {fr : Int} {G : Nat → Prop} (h : BS w B p n S fr G) (hR : Rp S F) (hf : f < n) :
    Calls Tryz.prog 84 #[.pointer (some ⟨p, 0, none⟩), .int .i64 (f : Int)] w (HoldC F f w) := by
  have hn : n ≤ 1024 := by obtain ⟨V, h1, _⟩ := h; exact h1.hn
  have HB := Lib.hid h
  have HR := Lib.hid hR
  clear h hR
  have KA : Hid (Keep (fun _ => False) w (w.alloc (.cells #[.int .i64 0, .int .i64 0] 96))) := (Keep.refl _ _).alloc _
  have HBA := Lib.hid (heap_alloc_new w (.cells #[.int .i64 0, .int .i64 0] 96))
  go_enter Tryz.func84, Tryz.ntmps84
  go_wp2
  generalize hw1 : w.alloc (.cells #[.int .i64 0, .int .i64 0] 96) = w1 at KA HBA ⊢
  obtain ⟨n4, hn4⟩ : ∃ n4, w.heap.size = n4 := ⟨_, rfl⟩
  have HN4 := Lib.hid hn4
  rw [hn4] at HBA ⊢
  clear hw1 hn4
  go_loopw [10] (fun i wr => ∃ k : Nat, k ≤ 9 ∧ i = .int .i64 k ∧ (∀ j, j < k → ¬ mx F j (dn j f)) ∧ Keep (fun _ => False) w1 wr) (fun i _ => 9 - (intOf i).toNat)
  case atStart => exact ⟨0, by omega, rfl, fun j hj => by omega, Keep.refl _ _⟩
  case round =>
    obtain ⟨k, hk, rfl, hno, hkeep⟩ := hrel
    have HNO := Lib.hid hno
    have HK := Lib.hid hkeep
    have HK0 := Lib.hid (KA.out.trans hkeep)
    have b4 := (hkeep.block n4 (block_lt HBA.out) id).trans HBA.out
    clear hno hkeep
    by_cases hlt : k < 9
    · obtain ⟨P, hP, e1, e2, hpb, s1, s2, hb, -⟩ := bits_k k f (by omega) (by omega)
      obtain ⟨V, hV, hGV⟩ := HB.out.keep0 HK0.out
      have HPL := Lib.hid (fun W (K : Keep (fun _ => False) wr W) => place_any ((dn k f : Nat) : Int) (hV.keep0 K) (k := k) (by omega))
      have hct : (li S n k).contains ((dn k f : Nat) : Int) = S k (dn k f) := by
        rw [li_contains, decide_eq_true (by have := dn_le k f; omega)]; rfl
      rw [hct] at HPL
      have hS := HR.out k (dn k f) (by omega)
      have HS := Lib.hid hS
      obtain ⟨d, hd⟩ : ∃ d, dn k f = d := ⟨_, rfl⟩
      have HD := Lib.hid hd
      rw [hd] at HPL HS hb
      have hkz : (0 : Int) ≤ (k : Int) := Int.natCast_nonneg k
      have hk9 : (k : Int) < 9 := by omega
      have HB4 := Lib.hid b4
      have f0 : wr.frozen? ⟨n4, 0, none⟩ = false := frozen_block b4
      have f1 : wr.frozen? ⟨n4, 1, none⟩ = false := frozen_block b4
      have c0 : wr.cell? ⟨n4, 0, none⟩ = some (.int .i64 0) := by simp [cell_block b4]
      have c1 : wr.cell? ⟨n4, 1, none⟩ = some (.int .i64 0) := by simp [cell_block b4]
      clear hV hGV hct hS hd hP hpb b4
      cases hSk : S k d with
      | true =>
        rw [hSk] at HPL HS
        have HMX : Hid (mx F k d) := HS.out.mp rfl
        clear hSk HS
        go_wp2_with (go_at_call 96; refine (HPL.out _ (by (repeat (first | exact Keep.refl _ _ | exact Keep.refl _ _ | refine Keep.drew ?_ | refine Keep.drewN ?_ _ | refine Keep.alloc ?_ _ | refine Keep.setNew ?_ (by omega) _)); done)).mono ?_; rintro e w5 ⟨rfl, hk5⟩; have HK5 := Lib.hid hk5; have B5 := Lib.hid ((hk5.block n4 (block_lt HB4.out) id).trans HB4.out); have f50 : w5.frozen? ⟨n4, 0, none⟩ = false := frozen_block B5.out; have f51 : w5.frozen? ⟨n4, 1, none⟩ = false := frozen_block B5.out; have c50 : w5.cell? ⟨n4, 0, none⟩ = some (.int .i64 0) := (by simp [cell_block B5.out]); have c51 : w5.cell? ⟨n4, 1, none⟩ = some (.int .i64 0) := (by simp [cell_block B5.out]); clear hk5 c0 c1 f0 f1)
        refine bodyPost_ret (v := .tuple #[.agg #[.int .i64 (d : Int), .int .i64 (k : Int)], .bool true]) ?_ rfl ⟨.inl ⟨k, by rw [HD.out]; exact HMX.out, by rw [HD.out]⟩, ?_⟩
        · obtain ⟨q1, q2⟩ := two_cells (u := .int .i64 (d : Int)) (v := .int .i64 (k : Int)) B5.out
          simp [results, Tryz.results84, go_sem, q1, q2]
        · exact keep_two HN4.out (HK0.out.trans HK5.out)
      | false =>
        rw [hSk] at HPL HS
        have HMX : Hid (¬ mx F k d) := fun h => by have := HS.out.mpr h; cases this
        clear hSk HS c0 c1 f0 f1
        go_wp2_with (go_at_call 96; refine (HPL.out _ (by (repeat (first | exact Keep.refl _ _ | exact Keep.refl _ _ | refine Keep.drew ?_ | refine Keep.drewN ?_ _ | refine Keep.alloc ?_ _ | refine Keep.setNew ?_ (by omega) _)); done)).mono ?_; rintro e w5 ⟨rfl, hk5⟩; have HK5 := Lib.hid hk5; clear hk5)
        go_roundw
        case rel => exact ⟨k + 1, by omega, by go_num, fun j hj => (by
          by_cases e : j = k
          · subst e; rw [HD.out]; exact HMX.out
          · exact HNO.out j (by omega)), HK.out.trans HK5.out⟩
        case measure => simp [intOf]; omega
    · obtain rfl : k = 9 := by omega
      have HFF : Hid (F f = false) := by
        unfold Hid
        rw [← Bool.not_eq_true]
        intro hx
        obtain ⟨j, hj⟩ := mx_of hx
        exact HNO.out j (by have := hj.1; omega) hj
      have f0 : wr.frozen? ⟨n4, 0, none⟩ = false := frozen_block b4
      have f1 : wr.frozen? ⟨n4, 1, none⟩ = false := frozen_block b4
      have c0 : wr.cell? ⟨n4, 0, none⟩ = some (.int .i64 0) := by simp [cell_block b4]
      have c1 : wr.cell? ⟨n4, 1, none⟩ = some (.int .i64 0) := by simp [cell_block b4]
      have B4 := Lib.hid b4
      clear b4
      go_wp2
      refine bodyPost_ret (v := .tuple #[.agg #[.int .i64 0, .int .i64 0], .bool false]) ?_ rfl ⟨.inr ⟨HFF.out, rfl⟩, ?_⟩
      · obtain ⟨q1, q2⟩ := two_cells (u := .int .i64 0) (v := .int .i64 0) B4.out
        simp [results, Tryz.results84, go_sem, q1, q2]
      · exact keep_two HN4.out HK0.out

theorem holder_yes {w : World} {B p n f : Nat} {S : Nat → Nat → Bool} {F : Nat → Bool} {fr : Int} {G : Nat → Prop} (h : BS w B p n S fr G) (hR : Rp S F) (hf : f < n) (hF : F f = true) :
    Calls Tryz.prog 84 #[.pointer (some ⟨p, 0, none⟩), .int .i64 (f : Int)] w fun e w' => ∃ k, mx F k (dn k f) ∧ e = .returned (.tuple #[.agg #[.int .i64 (dn k f : Nat), .int .i64 (k : Nat)], .bool true]) ∧ Keep (fun _ => False) w w' := by
  refine (holder_any h hR hf).mono ?_
  rintro e w' ⟨⟨k, h1, rfl⟩ | ⟨h1, rfl⟩, h2⟩
  · exact ⟨k, h1, rfl, h2⟩
  · rw [hF] at h1; cases h1
theorem holder_no {w : World} {B p n f : Nat} {S : Nat → Nat → Bool} {F : Nat → Bool} {fr : Int} {G : Nat → Prop} (h : BS w B p n S fr G) (hR : Rp S F) (hf : f < n) (hF : F f = false) :
    Calls Tryz.prog 84 #[.pointer (some ⟨p, 0, none⟩), .int .i64 (f : Int)] w fun e w' => e = .returned (.tuple #[.agg #[.int .i64 0, .int .i64 0], .bool false]) ∧ Keep (fun _ => False) w w' := by
  refine (holder_any h hR hf).mono ?_
  rintro e w' ⟨⟨k, h1, rfl⟩ | ⟨h1, rfl⟩, h2⟩
  · have h3 : F f = true := h1.2.2.1 f (dn_le k f) (dn_lt k f)
    rw [hF] at h3; cases h3
  · exact ⟨rfl, h2⟩

set_option maxHeartbeats 1000000 in
theorem has_in {w : World} {B p n f : Nat} {S : Nat → Nat → Bool} {F : Nat → Bool} {fr : Int} {G : Nat → Prop} (h : BS w B p n S fr G) (hR : Rp S F) (hf : f < n) :
    Calls Tryz.prog 64 #[.pointer (some ⟨p, 0, none⟩), .int .i64 (f : Int)] w fun e w' => e = .returned (.bool (F f)) ∧ Keep (fun _ => False) w w' := by
  have c0 : w.cell? ⟨p, 0, none⟩ = some (.int .i64 (n : Int)) := by obtain ⟨V, h1, _⟩ := h; exact h1.c0
  have hfz : (0 : Int) ≤ (f : Int) := Int.natCast_nonneg f
  have hfn : (f : Int) < (n : Int) := by omega
  cases hF : F f with
  | true =>
    have HH := Lib.hid (fun W (K : Keep (fun _ => False) w W) => holder_yes (h.keep0 K) hR hf hF)
    clear h hR hF
    go_enter Tryz.func64, Tryz.ntmps64
    go_wp2_with (go_at_call 84; refine (HH.out _ (by (repeat (first | exact Keep.refl _ _ | exact Keep.refl _ _ | refine Keep.drew ?_ | refine Keep.drewN ?_ _ | refine Keep.alloc ?_ _ | refine Keep.setNew ?_ (by omega) _)); done)).mono ?_; rintro e w1 ⟨k, -, rfl, hk1⟩; have HK1 : Hid (Keep (fun _ => False) w w1) := Keep.trans (by (repeat (first | exact Keep.refl _ _ | exact Keep.refl _ _ | refine Keep.drew ?_ | refine Keep.drewN ?_ _ | refine Keep.alloc ?_ _ | refine Keep.setNew ?_ (by omega) _)); done) hk1; clear hk1)
    go_ret
    exact ⟨rfl, (by (repeat (first | exact HK1.out | exact Keep.refl _ _ | refine Keep.drew ?_ | refine Keep.drewN ?_ _ | refine Keep.alloc ?_ _ | refine Keep.setNew ?_ (by omega) _)); done)⟩
  | false =>
    have HH := Lib.hid (fun W (K : Keep (fun _ => False) w W) => holder_no (h.keep0 K) hR hf hF)
    clear h hR hF
    go_enter Tryz.func64, Tryz.ntmps64
    go_wp2_with (go_at_call 84; refine (HH.out _ (by (repeat (first | exact Keep.refl _ _ | exact Keep.refl _ _ | refine Keep.drew ?_ | refine Keep.drewN ?_ _ | refine Keep.alloc ?_ _ | refine Keep.setNew ?_ (by omega) _)); done)).mono ?_; rintro e w1 ⟨rfl, hk1⟩; have HK1 : Hid (Keep (fun _ => False) w w1) := Keep.trans (by (repeat (first | exact Keep.refl _ _ | exact Keep.refl _ _ | refine Keep.drew ?_ | refine Keep.drewN ?_ _ | refine Keep.alloc ?_ _ | refine Keep.setNew ?_ (by omega) _)); done) hk1; clear hk1)
    go_ret
    exact ⟨rfl, (by (repeat (first | exact HK1.out | exact Keep.refl _ _ | refine Keep.drew ?_ | refine Keep.drewN ?_ _ | refine Keep.alloc ?_ _ | refine Keep.setNew ?_ (by omega) _)); done)⟩
set_option maxHeartbeats 1000000 in
theorem has_out {w : World} {B p n : Nat} {S : Nat → Nat → Bool} {fr : Int} {G : Nat → Prop} (f : Int) (h : BS w B p n S fr G) (hf : f < 0 ∨ (n : Int) ≤ f) :
    Calls Tryz.prog 64 #[.pointer (some ⟨p, 0, none⟩), .int .i64 f] w fun e w' => e = .returned (.bool false) ∧ Keep (fun _ => False) w w' := by
  have c0 : w.cell? ⟨p, 0, none⟩ = some (.int .i64 (n : Int)) := by obtain ⟨V, h1, _⟩ := h; exact h1.c0
  clear h
  by_cases h0 : f < 0
  · clear hf
    go_enter Tryz.func64, Tryz.ntmps64
    go_wp2
    go_ret
    exact ⟨rfl, (by (repeat (first | exact Keep.refl _ _ | exact Keep.refl _ _ | refine Keep.drew ?_ | refine Keep.drewN ?_ _ | refine Keep.alloc ?_ _ | refine Keep.setNew ?_ (by omega) _)); done)⟩
  · have h1 : (n : Int) ≤ f := by omega
    clear hf
    go_enter Tryz.func64, Tryz.ntmps64
    go_wp2
    go_ret
    exact ⟨rfl, (by (repeat (first | exact Keep.refl _ _ | exact Keep.refl _ _ | refine Keep.drew ?_ | refine Keep.drewN ?_ _ | refine Keep.alloc ?_ _ | refine Keep.setNew ?_ (by omega) _)); done)⟩
set_option maxHeartbeats 400000 in
theorem has_nil (f : Int) (w : World) : Calls Tryz.prog 64 #[.pointer none, .int .i64 f] w fun e w' => e = .returned (.bool false) ∧ Keep (fun _ => False) w w' := by
  go_enter Tryz.func64, Tryz.ntmps64
  go_wp2
  go_ret
  exact ⟨rfl, (by (repeat (first | exact Keep.refl _ _ | exact Keep.refl _ _ | refine Keep.drew ?_ | refine Keep.drewN ?_ _ | refine Keep.alloc ?_ _ | refine Keep.setNew ?_ (by omega) _)); done)⟩
set_option maxHeartbeats 400000 in
theorem free_any {w : World} {B p n : Nat} {S : Nat → Nat → Bool} {fr : Int} {G : Nat → Prop} (h : BS w B p n S fr G) :
    Calls Tryz.prog 65 #[.pointer (some ⟨p, 0, none⟩)] w fun e w' => e = .returned (.int .i64 fr) ∧ Keep (fun _ => False) w w' := by
  have c0 : w.cell? ⟨p, 10, none⟩ = some (.int .i64 fr) := by obtain ⟨V, h1, _⟩ := h; exact h1.c10
  go_enter Tryz.func65, Tryz.ntmps65
  go_wp2
  go_ret
  exact ⟨rfl, (by (repeat (first | exact Keep.refl _ _ | exact Keep.refl _ _ | refine Keep.drew ?_ | refine Keep.drewN ?_ _ | refine Keep.alloc ?_ _ | refine Keep.setNew ?_ (by omega) _)); done)⟩
set_option maxHeartbeats 400000 in
theorem free_nil (w : World) : Calls Tryz.prog 65 #[.pointer none] w fun e w' => e = .returned (.int .i64 0) ∧ Keep (fun _ => False) w w' := by
  go_enter Tryz.func65, Tryz.ntmps65
  go_wp2
  go_ret
  exact ⟨rfl, (by (repeat (first | exact Keep.refl _ _ | exact Keep.refl _ _ | refine Keep.drew ?_ | refine Keep.drewN ?_ _ | refine Keep.alloc ?_ _ | refine Keep.setNew ?_ (by omega) _)); done)⟩

end Go.Proofs.YtjffdimlbppgcaaGreat
