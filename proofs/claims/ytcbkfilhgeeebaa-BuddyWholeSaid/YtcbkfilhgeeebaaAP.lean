/- Buddy: do: TakeAt of both. -/
import Derived.Test.YtcbkfilhgeeebaaAO
set_option linter.unusedVariables false
set_option linter.unusedSimpArgs false
namespace Go.Proofs.Ytcbkfilhgeeebaa
open Go.RowKit Go.Own

theorem keepS4 {S : Nat → Prop} {w W : World} {p i b j k : Nat} {v u u' : Value} (h : Keep S w W) (hp : ¬ S p) (hb : ¬ S b) (hc : w.cell? ⟨p, i, none⟩ = some v) (fz : w.frozen? ⟨p, i, none⟩ = false) (hd : w.cell? ⟨b, j, none⟩ = some u) (hd' : w.cell? ⟨b, k, none⟩ = some u') :
    W.cell? ⟨p, i, none⟩ = some v ∧ W.frozen? ⟨p, i, none⟩ = false ∧ W.cell? ⟨b, j, none⟩ = some u ∧ W.cell? ⟨b, k, none⟩ = some u' :=
  ⟨(h.cell (block_lt_cell hc) hp).trans hc, (h.frozen (block_lt_cell hc) hp).trans fz, (h.cell (block_lt_cell hd) hb).trans hd, (h.cell (block_lt_cell hd') hb).trans hd'⟩

set_option maxRecDepth 100000 in
set_option maxHeartbeats 4000000 in
theorem do_at {w : World} {B q p x g n : Nat} {F : Nat → Bool} {T : List Bk} (f o nn : Int) (hh : Bool) (hf : i64B f) (h : Wd w B q p x g n F T) (hl : T.length ≤ 5000) :
    Calls Try.prog 17 #[.pointer (some ⟨q, 0, none⟩), .agg #[.int .i64 3, .int .i64 f, .int .i64 o, .int .i64 nn, .bool hh]] w (DoC w B q p x g n T) := by
  obtain ⟨v, hS, hT⟩ := h
  have HT := Lib.hid hT
  have HS := Lib.hid hS
  have HF := Lib.hid hf
  clear hS hT hf
  go_enter Try.func17, Try.ntmps17
  go_wp2
  have HBX : Hid ((w.alloc (.cells #[.int .i64 3, .int .i64 f, .int .i64 o, .int .i64 nn, .bool hh] 42)).heap[w.heap.size]? = some (.cells #[.int .i64 3, .int .i64 f, .int .i64 o, .int .i64 nn, .bool hh] 42 (0, 0))) := heap_alloc_new w _
  have HFN : Hid (∀ i, F i = true → i < n) := HS.out.1.1.fin
  have HK1 : Hid (Keep (fun _ => False) w (w.alloc (.cells #[.int .i64 3, .int .i64 f, .int .i64 o, .int .i64 nn, .bool hh] 42))) := (Keep.refl _ _).alloc _
  obtain ⟨b3, hb3⟩ : ∃ b3, w.heap.size = b3 := ⟨_, rfl⟩
  rw [hb3] at HBX ⊢
  generalize w.alloc (.cells #[.int .i64 3, .int .i64 f, .int .i64 o, .int .i64 nn, .bool hh] 42) = w1 at HBX HK1 ⊢
  clear hb3
  have HS1 := Lib.hid (HS.out.keep0 HK1.out)
  have HC1 := Lib.hid (dcf_of HS1.out.2.1 HBX.out)
  go_region_held3 (fun w' => DCf q p x b3 f o w')
    (first | exact HC5.out | exact HC1.out)
    (first | (go_at_call 19; refine (pair_at f o HF.out (HS1.out.1.keep0 (by (repeat (first | exact Keep.refl _ _ | exact Keep.refl _ _ | refine Keep.drew ?_ | refine Keep.drewN ?_ _ | refine Keep.alloc ?_ _ | refine Keep.setNew ?_ (by omega) _)); done))).mono ?_; rintro e w5 ⟨er, F', rfl, hx5, hp5, hk5⟩; have HX5 := Lib.hid hx5; have HP5 := Lib.hid hp5; have HK5 : Hid (KT B p g w1 w5) := kt_on (by (repeat (first | exact Keep.refl _ _ | exact Keep.refl _ _ | refine Keep.drew ?_ | refine Keep.drewN ?_ _ | refine Keep.alloc ?_ _ | refine Keep.setNew ?_ (by omega) _)); done) hk5; have HC5 := Lib.hid (dcf_of (kt_block HS1.out.1 HK5.out HS1.out.2.1 (by decide)) (kt_block HS1.out.1 HK5.out HBX.out (by decide))); clear hx5 hk5 hp5))
  all_goals
    go_wp2
    go_region_held3 (fun w' => DCf q p x b3 f o w')
      (first | exact HC6.out | exact HC5.out)
      (first | (go_at_call 34; refine (HX5.out _ (by (repeat (first | exact Keep.refl _ _ | exact Keep.refl _ _ | refine Keep.drew ?_ | refine Keep.drewN ?_ _ | refine Keep.alloc ?_ _ | refine Keep.setNew ?_ (by omega) _)); done)).mono ?_; rintro e w6 ⟨rfl, ht6, hk6⟩; have HK6 : Hid (KT B p g w1 w6) := kt_on (by (repeat (first | exact Keep.refl _ _ | exact Keep.refl _ _ | refine Keep.drew ?_ | refine Keep.drewN ?_ _ | refine Keep.alloc ?_ _ | refine Keep.setNew ?_ (by omega) _)); done) hk6; have HS6 := Lib.hid (HS1.out.on HK6.out ht6); have HB6 := Lib.hid (kt_block HS1.out.1 HK6.out HBX.out (by decide)); have HC6 := Lib.hid (dcf_of HS6.out.2.1 HB6.out); clear ht6 hk6))
    have HU6 : Hid (UpO q B w w6) := UpO.trans (UpO.of HK1.out) (UpO.kt HS1.out.1 HK6.out)
    clear HX5 HK5 HC5 HC1
    rcases HP5.out with ⟨he, rfl⟩ | ⟨rfl, a', o', rfl, rfl, ho8, hao, -, hb, rfl⟩
    · have he' : (er == 0) = false := by simp [he]
      clear he HP5
      go_wp2
      go_ret
      exact ⟨rfl, _, _, ⟨_, HS6.out, HT.out⟩, by omega, HU6.out⟩
    · have HBK := Lib.hid (And.intro ho8 (And.intro hao hb))
      clear HP5 ho8 hao hb
      have hn1 := HS6.out.1.1.n1024
      obtain ⟨z0, z1, z2⟩ := cells3 HS6.out.2.1
      have fz : w6.frozen? ⟨q, 2, none⟩ = false := frozen_block HS6.out.2.1
      obtain ⟨-, d1, d2, -, -⟩ := cells5 HB6.out
      go_wp2
      refine wp_region_noPanic ?_
      refine wp_region_L (fun w' => w'.cell? ⟨q, 2, none⟩ = some v ∧ w'.frozen? ⟨q, 2, none⟩ = false ∧ w'.cell? ⟨b3, 1, none⟩ = some (.int .i64 (a' : Int)) ∧ w'.cell? ⟨b3, 2, none⟩ = some (.int .i64 (o' : Int))) 14 (by kernel_rfl) (by (refine keepS4 (S := fun z => v.ownBlock = some z) ?_ (own_ne HS6.out HS6.out.2.1 (by decide)) (own_ne HS6.out HB6.out (by decide)) z2 fz d1 d2; (repeat (first | exact HK93.out | exact Keep.refl _ _ | refine Keep.drew ?_ | refine Keep.drewN ?_ _ | refine Keep.alloc ?_ _ | refine Keep.setNew ?_ (by omega) _)); done)) (fun hS0 => ?_)
      refine wpAnyL_take 0 (oi := { dst := some 82, op := Go.Op.move (Go.Operand.tmp 0), type := 37, pos := "law.go:61", after := #[], guard := none }) (v := ?_) rfl (by kernel_rfl) (by kernel_rfl) (by kernel_rfl) (by kernel_rfl) (fun _ _ _ h => h) (Or.inl ⟨by rfl, ?_⟩) (by assumption) ?_
      rotate_left
      · (intro w hSw; (try dsimp only at hSw); go_split_ands; go_simp; try (with_reducible rfl))
      simp only [Act.put, List.setIfInBounds_toArray, List.set_cons_zero, List.set_cons_succ]
      refine wpAnyL_take 1 (oi := { dst := some 83, op := Go.Op.move (Go.Operand.tmp 0), type := 37, pos := "law.go:61", after := #[], guard := none }) (v := ?_) rfl (by kernel_rfl) (by kernel_rfl) (by kernel_rfl) (by kernel_rfl) (fun _ _ _ h => h) (Or.inl ⟨by rfl, ?_⟩) (by assumption) ?_
      rotate_left
      · (intro w hSw; (try dsimp only at hSw); go_split_ands; go_simp; try (with_reducible rfl))
      simp only [Act.put, List.setIfInBounds_toArray, List.set_cons_zero, List.set_cons_succ]
      refine wpAnyL_take 2 (oi := { dst := some 84, op := Go.Op.nilCheck (Go.Operand.tmp 83), type := 0, pos := "law.go:61", after := #[{ on := 1, ground := Go.Ground.data }], guard := none }) (v := ?_) rfl (by kernel_rfl) (by kernel_rfl) (by kernel_rfl) (by kernel_rfl) (fun _ _ _ h => h) (Or.inl ⟨by rfl, ?_⟩) (by assumption) ?_
      rotate_left
      · (intro w hSw; (try dsimp only at hSw); go_split_ands; go_simp; try (with_reducible rfl))
      simp only [Act.put, List.setIfInBounds_toArray, List.set_cons_zero, List.set_cons_succ]
      refine wpAnyL_take 3 (oi := { dst := some 85, op := Go.Op.fieldAddr 46 (Go.Operand.tmp 84) 2, type := 0, pos := "law.go:61", after := #[{ on := 2, ground := Go.Ground.data }], guard := none }) (v := ?_) rfl (by kernel_rfl) (by kernel_rfl) (by kernel_rfl) (by kernel_rfl) (fun _ _ _ h => h) (Or.inl ⟨by rfl, ?_⟩) (by assumption) ?_
      rotate_left
      · (intro w hSw; (try dsimp only at hSw); go_split_ands; go_simp; try (with_reducible rfl))
      simp only [Act.put, List.setIfInBounds_toArray, List.set_cons_zero, List.set_cons_succ]
      refine wpAnyL_take 4 (oi := { dst := some 86, op := Go.Op.load 43 (Go.Operand.tmp 85), type := 43, pos := "law.go:61", after := #[{ on := 3, ground := Go.Ground.data }], guard := none }) (v := ?_) rfl (by kernel_rfl) (by kernel_rfl) (by kernel_rfl) (by kernel_rfl) (fun _ _ _ h => h) (Or.inl ⟨by rfl, ?_⟩) (by assumption) ?_
      rotate_left
      · (intro w hSw; (try dsimp only at hSw); go_split_ands; go_simp; try (with_reducible rfl))
      simp only [Act.put, List.setIfInBounds_toArray, List.set_cons_zero, List.set_cons_succ]
      refine wpAnyL_take 5 (oi := { dst := some 87, op := Go.Op.fieldAddr 42 (Go.Operand.tmp 3) 1, type := 0, pos := "law.go:61", after := #[], guard := none }) (v := ?_) rfl (by kernel_rfl) (by kernel_rfl) (by kernel_rfl) (by kernel_rfl) (fun _ _ _ h => h) (Or.inl ⟨by rfl, ?_⟩) (by assumption) ?_
      rotate_left
      · (intro w hSw; (try dsimp only at hSw); go_split_ands; go_simp; try (with_reducible rfl))
      simp only [Act.put, List.setIfInBounds_toArray, List.set_cons_zero, List.set_cons_succ]
      refine wpAnyL_take 6 (oi := { dst := some 88, op := Go.Op.load 3 (Go.Operand.tmp 87), type := 3, pos := "law.go:61", after := #[{ on := 5, ground := Go.Ground.data }], guard := none }) (v := ?_) rfl (by kernel_rfl) (by kernel_rfl) (by kernel_rfl) (by kernel_rfl) (fun _ _ _ h => h) (Or.inl ⟨by rfl, ?_⟩) (by assumption) ?_
      rotate_left
      · (intro w hSw; (try dsimp only at hSw); go_split_ands; go_simp; try (with_reducible rfl))
      simp only [Act.put, List.setIfInBounds_toArray, List.set_cons_zero, List.set_cons_succ]
      refine wpAnyL_take 7 (oi := { dst := some 89, op := Go.Op.fieldAddr 42 (Go.Operand.tmp 3) 2, type := 0, pos := "law.go:61", after := #[], guard := none }) (v := ?_) rfl (by kernel_rfl) (by kernel_rfl) (by kernel_rfl) (by kernel_rfl) (fun _ _ _ h => h) (Or.inl ⟨by rfl, ?_⟩) (by assumption) ?_
      rotate_left
      · (intro w hSw; (try dsimp only at hSw); go_split_ands; go_simp; try (with_reducible rfl))
      simp only [Act.put, List.setIfInBounds_toArray, List.set_cons_zero, List.set_cons_succ]
      refine wpAnyL_take 8 (oi := { dst := some 90, op := Go.Op.load 3 (Go.Operand.tmp 89), type := 3, pos := "law.go:61", after := #[{ on := 7, ground := Go.Ground.data }], guard := none }) (v := ?_) rfl (by kernel_rfl) (by kernel_rfl) (by kernel_rfl) (by kernel_rfl) (fun _ _ _ h => h) (Or.inl ⟨by rfl, ?_⟩) (by assumption) ?_
      rotate_left
      · (intro w hSw; (try dsimp only at hSw); go_split_ands; go_simp; try (with_reducible rfl))
      simp only [Act.put, List.setIfInBounds_toArray, List.set_cons_zero, List.set_cons_succ]
      refine wpAnyL_take 9 (oi := { dst := some 91, op := Go.Op.build 55 #[(0, Go.Operand.tmp 88), (1, Go.Operand.tmp 90)], type := 55, pos := "law.go:61", after := #[{ on := 6, ground := Go.Ground.data }, { on := 8, ground := Go.Ground.data }], guard := none }) (v := ?_) rfl (by kernel_rfl) (by kernel_rfl) (by kernel_rfl) (by kernel_rfl) (fun _ _ _ h => h) (Or.inl ⟨by rfl, ?_⟩) (by assumption) ?_
      rotate_left
      · (intro w hSw; (try dsimp only at hSw); go_split_ands; go_simp; try (with_reducible rfl))
      simp only [Act.put, List.setIfInBounds_toArray, List.set_cons_zero, List.set_cons_succ]
      refine wpAnyL_ready (rs := [10]) (by kernel_rfl) (by simp) ?_
      refine AllReadyL.cons (o := { dst := some 92, op := Go.Op.buildSlice 43 1 #[(0, Go.Operand.tmp 91)], type := 43, pos := "law.go:61", after := #[{ on := 9, ground := Go.Ground.data }], guard := none }) rfl (fun K hK => ?_) ?_
      · go_simp
        refine hK.out _ _ (.inr (by (refine keepS4 (S := fun z => v.ownBlock = some z) ?_ (own_ne HS6.out HS6.out.2.1 (by decide)) (own_ne HS6.out HB6.out (by decide)) z2 fz d1 d2; (repeat (first | exact HK93.out | exact Keep.refl _ _ | refine Keep.drew ?_ | refine Keep.drewN ?_ _ | refine Keep.alloc ?_ _ | refine Keep.setNew ?_ (by omega) _)); done))) (fun hS10 => ?_)
        replace hS10 := hS10.resolve_left (by decide)
        try simp only [Act.put, List.setIfInBounds_toArray, List.set_cons_zero, List.set_cons_succ]
        refine wpAnyL_ready (rs := [11]) (by kernel_rfl) (by simp) ?_
        refine AllReadyL.cons (o := { dst := some 93, op := Go.Op.call { callee := Go.Callee.builtin Go.Builtin.append, args := #[Go.Operand.tmp 86, Go.Operand.tmp 92], argTypes := #[43, 43] }, type := 43, pos := "law.go:61", after := #[{ on := 4, ground := Go.Ground.data }, { on := 10, ground := Go.Ground.data }], guard := none }) rfl (fun K hK => ?_) ?_
        · refine step_appF et43 (by rfl) (.tmp 86) (.tmp 92) (by rfl) B v T.length (bkE.cs T) (by rfl) (HS6.out.2.2.1.keep (S := fun _ => False) (by (repeat (first | exact Keep.refl _ _ | exact Keep.refl _ _ | refine Keep.drew ?_ | refine Keep.drewN ?_ _ | refine Keep.alloc ?_ _ | refine Keep.setNew ?_ (by omega) _)); done) (fun _ _ => id)) ⟨w6.heap.size, 0, none⟩ 1 1 [.int .i64 (a' : Int), .int .i64 (o' : Int)] (by rfl) rfl (new_cells (heap_alloc_new w6.drew _)) (by simp [Value.oneCell']) (by unfold maxLen; omega) (by omega) (by have := HS6.out.base; simp; omega) ?_
          intro v93 w93 ho93 hg93 hv93
          obtain ⟨a93, l93, c93, rfl⟩ := own_slice ho93
          have HV93 : Hid (∀ z, (Value.slice a93 l93 c93).ownBlock = some z → v.ownBlock = some z ∨ w6.heap.size ≤ z) := fun z hz => (hv93 z hz).imp id (fun h => by simp at h; omega)
          have HK93 : Hid (Keep (fun z => v.ownBlock = some z) w6 w93) := Keep.grown (by (repeat (first | exact Keep.refl _ _ | exact Keep.refl _ _ | refine Keep.drew ?_ | refine Keep.drewN ?_ _ | refine Keep.alloc ?_ _ | refine Keep.setNew ?_ (by omega) _)); done) hg93 (fun x h1 h2 => h1)
          have HO93 : Hid (OwnL bkE w93 B 55 (.slice a93 l93 c93) (T ++ [⟨a', o'⟩])) := own_conv ho93 (by simp) (by rw [bkE.cs_append, bkE.cs_one]; rfl) (Nat.le_refl _)
          clear ho93 hg93 hv93
          refine hK.out _ _ (.inr (by (refine keepS4 (S := fun z => v.ownBlock = some z) ?_ (own_ne HS6.out HS6.out.2.1 (by decide)) (own_ne HS6.out HB6.out (by decide)) z2 fz d1 d2; (repeat (first | exact HK93.out | exact Keep.refl _ _ | refine Keep.drew ?_ | refine Keep.drewN ?_ _ | refine Keep.alloc ?_ _ | refine Keep.setNew ?_ (by omega) _)); done))) (fun hS11 => ?_)
          replace hS11 := hS11.resolve_left (by decide)
          try simp only [Act.put, List.setIfInBounds_toArray, List.set_cons_zero, List.set_cons_succ]
          refine wpAnyL_ready (rs := [12]) (by kernel_rfl) (by simp) ?_
          refine AllReadyL.cons (o := { dst := some 94, op := Go.Op.nilCheck (Go.Operand.tmp 82), type := 0, pos := "law.go:61", after := #[{ on := 0, ground := Go.Ground.data }, { on := 0, ground := Go.Ground.phase }, { on := 1, ground := Go.Ground.phase }, { on := 2, ground := Go.Ground.phase }, { on := 3, ground := Go.Ground.phase }, { on := 4, ground := Go.Ground.phase }, { on := 5, ground := Go.Ground.phase }, { on := 6, ground := Go.Ground.phase }, { on := 7, ground := Go.Ground.phase }, { on := 8, ground := Go.Ground.phase }, { on := 9, ground := Go.Ground.phase }, { on := 10, ground := Go.Ground.phase }, { on := 11, ground := Go.Ground.phase }], guard := none }) rfl (fun K hK => ?_) ?_
          · go_simp
            refine hK.out _ _ (.inr (by (refine keepS4 (S := fun z => v.ownBlock = some z) ?_ (own_ne HS6.out HS6.out.2.1 (by decide)) (own_ne HS6.out HB6.out (by decide)) z2 fz d1 d2; (repeat (first | exact HK93.out | exact Keep.refl _ _ | refine Keep.drew ?_ | refine Keep.drewN ?_ _ | refine Keep.alloc ?_ _ | refine Keep.setNew ?_ (by omega) _)); done))) (fun hS12 => ?_)
            replace hS12 := hS12.resolve_left (by decide)
            try simp only [Act.put, List.setIfInBounds_toArray, List.set_cons_zero, List.set_cons_succ]
            refine wpAnyL_take 13 (oi := { dst := some 95, op := Go.Op.fieldAddr 46 (Go.Operand.tmp 94) 2, type := 0, pos := "law.go:61", after := #[{ on := 12, ground := Go.Ground.data }, { on := 0, ground := Go.Ground.phase }, { on := 1, ground := Go.Ground.phase }, { on := 2, ground := Go.Ground.phase }, { on := 3, ground := Go.Ground.phase }, { on := 4, ground := Go.Ground.phase }, { on := 5, ground := Go.Ground.phase }, { on := 6, ground := Go.Ground.phase }, { on := 7, ground := Go.Ground.phase }, { on := 8, ground := Go.Ground.phase }, { on := 9, ground := Go.Ground.phase }, { on := 10, ground := Go.Ground.phase }, { on := 11, ground := Go.Ground.phase }], guard := none }) (v := ?_) rfl (by kernel_rfl) (by kernel_rfl) (by kernel_rfl) (by kernel_rfl) (fun _ _ _ h => h) (Or.inl ⟨by rfl, ?_⟩) (by assumption) ?_
            rotate_left
            · (intro w hSw; (try dsimp only at hSw); go_split_ands; go_simp; try (with_reducible rfl))
            simp only [Act.put, List.setIfInBounds_toArray, List.set_cons_zero, List.set_cons_succ]
            refine wpAnyL_ready (rs := [14]) (by kernel_rfl) (by simp) ?_
            refine AllReadyL.cons (o := { dst := none, op := Go.Op.store 43 (Go.Operand.tmp 95) (Go.Operand.tmp 93), type := 0, pos := "law.go:61", after := #[{ on := 13, ground := Go.Ground.data }, { on := 11, ground := Go.Ground.data }, { on := 11, ground := Go.Ground.chain }, { on := 0, ground := Go.Ground.phase }, { on := 1, ground := Go.Ground.phase }, { on := 2, ground := Go.Ground.phase }, { on := 3, ground := Go.Ground.phase }, { on := 4, ground := Go.Ground.phase }, { on := 5, ground := Go.Ground.phase }, { on := 6, ground := Go.Ground.phase }, { on := 7, ground := Go.Ground.phase }, { on := 8, ground := Go.Ground.phase }, { on := 9, ground := Go.Ground.phase }, { on := 10, ground := Go.Ground.phase }, { on := 11, ground := Go.Ground.phase }], guard := none }) rfl (fun K hK => ?_) ?_
            · go_simp
              refine hK.out _ _ (.inl rfl) (fun _ => ?_)
              try simp only [Act.put, List.setIfInBounds_toArray, List.set_cons_zero, List.set_cons_succ]
              refine wpAnyL_done (by kernel_rfl) ?_ _
              refine NoPanic.normal ?_
              have hput := HS6.out.putO HK93.out HO93.out HV93.out
              go_wp2
              go_ret
              exact ⟨rfl, _, _, ⟨_, hput.1, HT.out.push HBK.out.1 HBK.out.2.1 (blk_end HFN.out HBK.out.2.2) HBK.out.2.2⟩, by simp, UpO.trans HU6.out hput.2⟩
            exact AllReadyL.nil
          exact AllReadyL.nil
        exact AllReadyL.nil
      exact AllReadyL.nil

set_option maxRecDepth 100000 in
set_option maxHeartbeats 4000000 in
theorem do_give {w : World} {B q p x g n : Nat} {F : Nat → Bool} {T : List Bk} (f o nn : Int) (hh : Bool) (h : Wd w B q p x g n F T) (hl : T.length ≤ 5000) :
    Calls Try.prog 17 #[.pointer (some ⟨q, 0, none⟩), .agg #[.int .i64 4, .int .i64 f, .int .i64 o, .int .i64 nn, .bool hh]] w (DoC w B q p x g n T) := by
  have HW := Lib.hid h
  obtain ⟨v, hS, hT⟩ := h
  have HS := Lib.hid hS
  clear hS hT
  obtain ⟨av, cv, rfl, -⟩ := HS.out.2.2.1.slice
  have hcase : (nn < 0) ∨ (0 ≤ nn ∧ (T.length : Int) ≤ nn) ∨ ∃ i : Nat, nn = i ∧ i < T.length := by
    rcases Int.lt_or_le nn 0 with h | h
    · exact .inl h
    · obtain ⟨i, rfl⟩ := Int.eq_ofNat_of_zero_le h
      by_cases hi : i < T.length
      · exact .inr (.inr ⟨i, rfl, hi⟩)
      · exact .inr (.inl ⟨h, by omega⟩)
  have HBX : Hid ((w.alloc (.cells #[.int .i64 4, .int .i64 f, .int .i64 o, .int .i64 nn, .bool hh] 42)).heap[w.heap.size]? = some (.cells #[.int .i64 4, .int .i64 f, .int .i64 o, .int .i64 nn, .bool hh] 42 (0, 0))) := heap_alloc_new w _
  have HK1 : Hid (Keep (fun _ => False) w (w.alloc (.cells #[.int .i64 4, .int .i64 f, .int .i64 o, .int .i64 nn, .bool hh] 42))) := (Keep.refl _ _).alloc _
  rcases hcase with h | ⟨h0, h1⟩ | ⟨i, rfl, hi⟩
  · have t0 : decide (0 ≤ nn) = false := by simp; omega
    clear h
    go_enter Try.func17, Try.ntmps17
    go_wp2
    obtain ⟨b3, hb3⟩ : ∃ b3, w.heap.size = b3 := ⟨_, rfl⟩
    rw [hb3] at HBX ⊢
    generalize w.alloc (.cells #[.int .i64 4, .int .i64 f, .int .i64 o, .int .i64 nn, .bool hh] 42) = w1 at HBX HK1 ⊢
    obtain ⟨-, -, -, d3, d4⟩ := cells5 HBX.out
    go_quiet (fail)
    go_wp2
    go_ret
    exact ⟨rfl, _, _, HW.out.keep0 (by (repeat (first | exact HK1.out | exact Keep.refl _ _ | refine Keep.drew ?_ | refine Keep.drewN ?_ _ | refine Keep.alloc ?_ _ | refine Keep.setNew ?_ (by omega) _)); done), by omega, UpO.of (by (repeat (first | exact HK1.out | exact Keep.refl _ _ | refine Keep.drew ?_ | refine Keep.drewN ?_ _ | refine Keep.alloc ?_ _ | refine Keep.setNew ?_ (by omega) _)); done)⟩
  · have t0 : decide (0 ≤ nn) = true := by simp; omega
    have t1 : decide (nn < (T.length : Int)) = false := by simp; omega
    clear h0 h1
    go_enter Try.func17, Try.ntmps17
    go_wp2
    obtain ⟨b3, hb3⟩ : ∃ b3, w.heap.size = b3 := ⟨_, rfl⟩
    rw [hb3] at HBX ⊢
    generalize w.alloc (.cells #[.int .i64 4, .int .i64 f, .int .i64 o, .int .i64 nn, .bool hh] 42) = w1 at HBX HK1 ⊢
    obtain ⟨-, -, -, d3, d4⟩ := cells5 HBX.out
    obtain ⟨z0, z1, z2⟩ := cells3 (HS.out.keep0 HK1.out).2.1
    go_quiet (fail)
    go_wp2
    go_ret
    exact ⟨rfl, _, _, HW.out.keep0 (by (repeat (first | exact HK1.out | exact Keep.refl _ _ | refine Keep.drew ?_ | refine Keep.drewN ?_ _ | refine Keep.alloc ?_ _ | refine Keep.setNew ?_ (by omega) _)); done), by omega, UpO.of (by (repeat (first | exact HK1.out | exact Keep.refl _ _ | refine Keep.drew ?_ | refine Keep.drewN ?_ _ | refine Keep.alloc ?_ _ | refine Keep.setNew ?_ (by omega) _)); done)⟩
  · have t0 : decide (0 ≤ (i : Int)) = true := by simp
    have t1 : decide ((i : Int) < (T.length : Int)) = true := by simp; omega
    have t2 : decide (i < T.length) = true := by simp; omega
    go_enter Try.func17, Try.ntmps17
    go_wp2
    obtain ⟨b3, hb3⟩ : ∃ b3, w.heap.size = b3 := ⟨_, rfl⟩
    rw [hb3] at HBX ⊢
    generalize w.alloc (.cells #[.int .i64 4, .int .i64 f, .int .i64 o, .int .i64 (i : Int), .bool hh] 42) = w1 at HBX HK1 ⊢
    obtain ⟨-, -, -, d3, d4⟩ := cells5 HBX.out
    obtain ⟨z0, z1, z2⟩ := cells3 (HS.out.keep0 HK1.out).2.1
    go_quiet (fail)
    go_wp2_with (go_at_call 28; refine (wgive_any i hh (HW.out.keep0 (by (repeat (first | exact HK1.out | exact Keep.refl _ _ | refine Keep.drew ?_ | refine Keep.drewN ?_ _ | refine Keep.alloc ?_ _ | refine Keep.setNew ?_ (by omega) _)); done)) hl hi).mono ?_; rintro e w5 ⟨rfl, F', T', hw5, hl5, -, hu5⟩; have HW5 := Lib.hid hw5; have HL5 := Lib.hid hl5; have HU5 : Hid (UpO q B w w5) := UpO.trans (UpO.of (by (repeat (first | exact HK1.out | exact Keep.refl _ _ | refine Keep.drew ?_ | refine Keep.drewN ?_ _ | refine Keep.alloc ?_ _ | refine Keep.setNew ?_ (by omega) _)); done)) hu5; clear hw5 hl5 hu5)
    go_ret
    exact ⟨rfl, _, _, HW5.out, by have := HL5.out; omega, HU5.out⟩

end Go.Proofs.Ytcbkfilhgeeebaa
