/- Kinds: do: TakeAt of both; do. -/
import Derived.Test.YtnjcchgbkemekaaKX
set_option linter.unusedVariables false
set_option linter.unusedSimpArgs false
namespace Go.Proofs.Ytnjcchgbkemekaa
open Go.RowKit Go.Own

/- Part KY: Kinds: do: Take of both, Set of both. -/
abbrev CC (q k X x b : Nat) (f o y : Int) (w : World) : Prop := w.cell? ⟨q, 0, none⟩ = some (.pointer (some ⟨k, 0, none⟩)) ∧ w.cell? ⟨q, 1, none⟩ = some (.pointer (some ⟨X, 0, none⟩)) ∧ w.cell? ⟨b, 1, none⟩ = some (.int .i64 f) ∧ w.cell? ⟨b, 2, none⟩ = some (.int .i64 o) ∧ w.cell? ⟨b, 3, none⟩ = some (.int .i64 y) ∧ w.cell? ⟨X, 0, none⟩ = some (.pointer (some ⟨x, 0, none⟩))
section
variable {w w' w2 w6 : World} {A : Ad} {q b : Nat} {F F' F1 : Nat → Bool} {M M' M1 : Nat → Int} {v y0 y4 : Value} {T : List Bk} {f o y : Int}
theorem cc_of (h : St w A q F M F' M' v T) (hb : w.heap[b]? = some (.cells #[y0, .int .i64 f, .int .i64 o, .int .i64 y, y4] 31 (0, 0))) : CC q A.k A.X A.x b f o y w :=
  ⟨(cells3 h.hq).1, (cells3 h.hq).2.1, (cells5 hb).2.1, (cells5 hb).2.2.1, (cells5 hb).2.2.2.1, (cell2b h.duo.rk.hX).1⟩
theorem cc_ku (h : St w A q F M F' M' v T) (hb : w.heap[b]? = some (.cells #[y0, .int .i64 f, .int .i64 o, .int .i64 y, y4] 31 (0, 0))) (k : KU A w w') : CC q A.k A.X A.x b f o y w' := by
  have h1 := ku_block h.duo k h.hq (by decide)
  have h2 := ku_block h.duo k hb (by decide)
  have h3 := ku_block h.duo k h.duo.rk.hX (by decide)
  exact ⟨(cells3 h1).1, (cells3 h1).2.1, (cells5 h2).2.1, (cells5 h2).2.2.1, (cells5 h2).2.2.2.1, (cell2b h3).1⟩
theorem KU.trans (h : KU A w w2) (k : KU A w2 w') : KU A w w' := by
  refine ⟨k.os.trans h.os, k.tape.trans h.tape, k.output.trans h.output, Nat.le_trans h.size k.size, fun z hz hs => ?_⟩
  rw [k.block z (Nat.lt_of_lt_of_le hz h.size) ?_]
  · exact h.block z hz hs
  · rintro (e | e | ⟨⟨h1, _⟩, c, h2⟩)
    · exact hs (.inl e)
    · exact hs (.inr (.inl e))
    · exact hs (.inr (.inr ⟨⟨h1, hz⟩, c, (h.block z hz hs).symm.trans h2⟩))
end
set_option maxRecDepth 100000 in
set_option maxHeartbeats 4000000 in
theorem do_take {w : World} {A : Ad} {q : Nat} {F : Nat → Bool} {M : Nat → Int} {T : List Bk} (K f o y nn : Int) (hK : K = 0 ∨ K = 1 ∨ K = 2) (h : Wd w A q F M T) (hl : T.length ≤ 5000) :
    Calls Try.prog 10 #[.pointer (some ⟨q, 0, none⟩), .agg #[.int .i64 K, .int .i64 f, .int .i64 o, .int .i64 y, .int .i64 nn]] w (DoC w A q T) := by
  obtain ⟨v, hS, hT, hM⟩ := h
  have HT := Lib.hid hT
  have HS := Lib.hid hS
  have HM := Lib.hid hM
  clear hS hT hM
  rcases sw3 hK with q0 | ⟨q0, q1⟩ | ⟨q0, q1, q2⟩
  all_goals
    clear hK
    go_enter Try.func10, Try.ntmps10
    go_wp2
    have HBX : Hid ((w.alloc (.cells #[.int .i64 K, .int .i64 f, .int .i64 o, .int .i64 y, .int .i64 nn] 31)).heap[w.heap.size]? = some (.cells #[.int .i64 K, .int .i64 f, .int .i64 o, .int .i64 y, .int .i64 nn] 31 (0, 0))) := heap_alloc_new w _
    have HK1 : Hid (Keep (fun _ => False) w (w.alloc (.cells #[.int .i64 K, .int .i64 f, .int .i64 o, .int .i64 y, .int .i64 nn] 31))) := (Keep.refl _ _).alloc _
    obtain ⟨b3, hb3⟩ : ∃ b3, w.heap.size = b3 := ⟨_, rfl⟩
    rw [hb3] at HBX ⊢
    generalize w.alloc (.cells #[.int .i64 K, .int .i64 f, .int .i64 o, .int .i64 y, .int .i64 nn] 31) = w1 at HBX HK1 ⊢
    clear hb3
    have HS1 := Lib.hid (HS.out.keep0 HK1.out)
    have HC1 := Lib.hid (cc_of HS1.out HBX.out)
    go_region_held3 (fun w' => CC q A.k A.X A.x b3 f o y w')
      (first | exact HC5.out | exact HC1.out)
      (first | (go_at_call 13; refine (duo_take o y (HS1.out.duo.keep0 (by (repeat (first | exact Keep.refl _ _ | exact Keep.refl _ _ | refine Keep.drew ?_ | refine Keep.drewN ?_ _ | refine Keep.alloc ?_ _ | refine Keep.setNew ?_ (by omega) _)); done)) HM.out).mono ?_; rintro e w5 ⟨ra, er, F', M', rfl, hd5, hm5, hk5, hx5, hp5⟩; have HX5 := Lib.hid hx5; have HD5 := Lib.hid hd5; have HM5 := Lib.hid hm5; have HP5 := Lib.hid hp5; have HK5 : Hid (KU A w1 w5) := ku_on (by (repeat (first | exact Keep.refl _ _ | exact Keep.refl _ _ | refine Keep.drew ?_ | refine Keep.drewN ?_ _ | refine Keep.alloc ?_ _ | refine Keep.setNew ?_ (by omega) _)); done) hk5; have HC5 := Lib.hid (cc_ku HS1.out HBX.out HK5.out); clear hx5 hk5 hp5 hd5 hm5))
    go_wp2
    go_region_held3 (fun w' => CC q A.k A.X A.x b3 f o y w')
      (first | exact HC6.out | exact HC5.out)
      (first | (go_at_call 30; refine (HX5.out _ (HD5.out.keep0 (by (repeat (first | exact Keep.refl _ _ | exact Keep.refl _ _ | refine Keep.drew ?_ | refine Keep.drewN ?_ _ | refine Keep.alloc ?_ _ | refine Keep.setNew ?_ (by omega) _)); done))).mono ?_; rintro e w6 ⟨rfl, hd6, hk6⟩; have HK6 : Hid (KU A w1 w6) := HK5.out.trans (ku_on (by (repeat (first | exact Keep.refl _ _ | exact Keep.refl _ _ | refine Keep.drew ?_ | refine Keep.drewN ?_ _ | refine Keep.alloc ?_ _ | refine Keep.setNew ?_ (by omega) _)); done) hk6); have HS6 := Lib.hid (HS1.out.on HK6.out hd6); have HB6 := Lib.hid (ku_block HS1.out.duo HK6.out HBX.out (by decide)); have HC6 := Lib.hid (cc_ku HS1.out HBX.out HK6.out); clear hd6 hk6))
    have HU6 : Hid (UpO q A.B w w6) := UpO.trans (UpO.of HK1.out) (UpO.ku HS1.out.duo HK6.out)
    clear HX5 HK5 HC5 HC1
    rcases HP5.out with ⟨he, rfl⟩ | ⟨rfl, a', o', rfl, rfl, ho8, hao, hb, rfl⟩
    · have he' : (er == 0) = false := by simp [he]
      clear he HP5
      go_wp2
      go_ret
      exact ⟨rfl, _, _, _, ⟨_, HS6.out, HT.out, HM5.out⟩, by omega, HU6.out⟩
    · have HBK := Lib.hid (And.intro ho8 (And.intro hao hb))
      have HFN : Hid (∀ i, F i = true → i < A.n) := HS.out.duo.ko.bf.fin
      clear HP5 ho8 hao hb
      obtain ⟨z0, z1, z2⟩ := cells3 HS6.out.hq
      have fz : w6.frozen? ⟨q, 2, none⟩ = false := frozen_block HS6.out.hq
      obtain ⟨-, -, d2, -, -⟩ := cells5 HB6.out
      go_wp2
      refine wp_region_noPanic ?_
      refine wp_region_L (fun w' => w'.cell? ⟨q, 2, none⟩ = some v ∧ w'.frozen? ⟨q, 2, none⟩ = false ∧ w'.cell? ⟨b3, 2, none⟩ = some (.int .i64 (o' : Int))) 13 (by kernel_rfl) (by (refine keepS3 (S := fun z => v.ownBlock = some z) ?_ (own_ne HS6.out HS6.out.hq (by decide)) (own_ne HS6.out HB6.out (by decide)) z2 fz d2; (repeat (first | exact HK53.out | exact Keep.refl _ _ | refine Keep.drew ?_ | refine Keep.drewN ?_ _ | refine Keep.alloc ?_ _ | refine Keep.setNew ?_ (by omega) _)); done)) (fun hS0 => ?_)
      refine wpAnyL_take 0 (oi := { dst := some 43, op := Go.Op.move (Go.Operand.tmp 0), type := 25, pos := "law.go:64", after := #[], guard := none }) (v := ?_) rfl (by kernel_rfl) (by kernel_rfl) (by kernel_rfl) (by kernel_rfl) (fun _ _ _ h => h) (Or.inl ⟨by rfl, ?_⟩) (by assumption) ?_
      rotate_left
      · (intro w hSw; (try dsimp only at hSw); go_split_ands; go_simp; try (with_reducible rfl))
      simp only [Act.put, List.setIfInBounds_toArray, List.set_cons_zero, List.set_cons_succ]
      refine wpAnyL_take 1 (oi := { dst := some 44, op := Go.Op.move (Go.Operand.tmp 0), type := 25, pos := "law.go:64", after := #[], guard := none }) (v := ?_) rfl (by kernel_rfl) (by kernel_rfl) (by kernel_rfl) (by kernel_rfl) (fun _ _ _ h => h) (Or.inl ⟨by rfl, ?_⟩) (by assumption) ?_
      rotate_left
      · (intro w hSw; (try dsimp only at hSw); go_split_ands; go_simp; try (with_reducible rfl))
      simp only [Act.put, List.setIfInBounds_toArray, List.set_cons_zero, List.set_cons_succ]
      refine wpAnyL_take 2 (oi := { dst := some 45, op := Go.Op.nilCheck (Go.Operand.tmp 44), type := 0, pos := "law.go:64", after := #[{ on := 1, ground := Go.Ground.data }], guard := none }) (v := ?_) rfl (by kernel_rfl) (by kernel_rfl) (by kernel_rfl) (by kernel_rfl) (fun _ _ _ h => h) (Or.inl ⟨by rfl, ?_⟩) (by assumption) ?_
      rotate_left
      · (intro w hSw; (try dsimp only at hSw); go_split_ands; go_simp; try (with_reducible rfl))
      simp only [Act.put, List.setIfInBounds_toArray, List.set_cons_zero, List.set_cons_succ]
      refine wpAnyL_take 3 (oi := { dst := some 46, op := Go.Op.fieldAddr 40 (Go.Operand.tmp 45) 2, type := 0, pos := "law.go:64", after := #[{ on := 2, ground := Go.Ground.data }], guard := none }) (v := ?_) rfl (by kernel_rfl) (by kernel_rfl) (by kernel_rfl) (by kernel_rfl) (fun _ _ _ h => h) (Or.inl ⟨by rfl, ?_⟩) (by assumption) ?_
      rotate_left
      · (intro w hSw; (try dsimp only at hSw); go_split_ands; go_simp; try (with_reducible rfl))
      simp only [Act.put, List.setIfInBounds_toArray, List.set_cons_zero, List.set_cons_succ]
      refine wpAnyL_take 4 (oi := { dst := some 47, op := Go.Op.load 38 (Go.Operand.tmp 46), type := 38, pos := "law.go:64", after := #[{ on := 3, ground := Go.Ground.data }], guard := none }) (v := ?_) rfl (by kernel_rfl) (by kernel_rfl) (by kernel_rfl) (by kernel_rfl) (fun _ _ _ h => h) (Or.inl ⟨by rfl, ?_⟩) (by assumption) ?_
      rotate_left
      · (intro w hSw; (try dsimp only at hSw); go_split_ands; go_simp; try (with_reducible rfl))
      simp only [Act.put, List.setIfInBounds_toArray, List.set_cons_zero, List.set_cons_succ]
      refine wpAnyL_take 5 (oi := { dst := some 48, op := Go.Op.move (Go.Operand.tmp 7), type := 3, pos := "law.go:64", after := #[], guard := none }) (v := ?_) rfl (by kernel_rfl) (by kernel_rfl) (by kernel_rfl) (by kernel_rfl) (fun _ _ _ h => h) (Or.inl ⟨by rfl, ?_⟩) (by assumption) ?_
      rotate_left
      · (intro w hSw; (try dsimp only at hSw); go_split_ands; go_simp; try (with_reducible rfl))
      simp only [Act.put, List.setIfInBounds_toArray, List.set_cons_zero, List.set_cons_succ]
      refine wpAnyL_take 6 (oi := { dst := some 49, op := Go.Op.fieldAddr 31 (Go.Operand.tmp 3) 2, type := 0, pos := "law.go:64", after := #[], guard := none }) (v := ?_) rfl (by kernel_rfl) (by kernel_rfl) (by kernel_rfl) (by kernel_rfl) (fun _ _ _ h => h) (Or.inl ⟨by rfl, ?_⟩) (by assumption) ?_
      rotate_left
      · (intro w hSw; (try dsimp only at hSw); go_split_ands; go_simp; try (with_reducible rfl))
      simp only [Act.put, List.setIfInBounds_toArray, List.set_cons_zero, List.set_cons_succ]
      refine wpAnyL_take 7 (oi := { dst := some 50, op := Go.Op.load 3 (Go.Operand.tmp 49), type := 3, pos := "law.go:64", after := #[{ on := 6, ground := Go.Ground.data }], guard := none }) (v := ?_) rfl (by kernel_rfl) (by kernel_rfl) (by kernel_rfl) (by kernel_rfl) (fun _ _ _ h => h) (Or.inl ⟨by rfl, ?_⟩) (by assumption) ?_
      rotate_left
      · (intro w hSw; (try dsimp only at hSw); go_split_ands; go_simp; try (with_reducible rfl))
      simp only [Act.put, List.setIfInBounds_toArray, List.set_cons_zero, List.set_cons_succ]
      refine wpAnyL_take 8 (oi := { dst := some 51, op := Go.Op.build 49 #[(0, Go.Operand.tmp 48), (1, Go.Operand.tmp 50)], type := 49, pos := "law.go:64", after := #[{ on := 5, ground := Go.Ground.data }, { on := 7, ground := Go.Ground.data }], guard := none }) (v := ?_) rfl (by kernel_rfl) (by kernel_rfl) (by kernel_rfl) (by kernel_rfl) (fun _ _ _ h => h) (Or.inl ⟨by rfl, ?_⟩) (by assumption) ?_
      rotate_left
      · (intro w hSw; (try dsimp only at hSw); go_split_ands; go_simp; try (with_reducible rfl))
      simp only [Act.put, List.setIfInBounds_toArray, List.set_cons_zero, List.set_cons_succ]
      refine wpAnyL_ready (rs := [9]) (by kernel_rfl) (by simp) ?_
      refine AllReadyL.cons (o := { dst := some 52, op := Go.Op.buildSlice 38 1 #[(0, Go.Operand.tmp 51)], type := 38, pos := "law.go:64", after := #[{ on := 8, ground := Go.Ground.data }], guard := none }) rfl (fun K hK => ?_) ?_
      · go_simp
        refine hK.out _ _ (.inr (by (refine keepS3 (S := fun z => v.ownBlock = some z) ?_ (own_ne HS6.out HS6.out.hq (by decide)) (own_ne HS6.out HB6.out (by decide)) z2 fz d2; (repeat (first | exact HK53.out | exact Keep.refl _ _ | refine Keep.drew ?_ | refine Keep.drewN ?_ _ | refine Keep.alloc ?_ _ | refine Keep.setNew ?_ (by omega) _)); done))) (fun hS9 => ?_)
        replace hS9 := hS9.resolve_left (by decide)
        try simp only [Act.put, List.setIfInBounds_toArray, List.set_cons_zero, List.set_cons_succ]
        refine wpAnyL_ready (rs := [10]) (by kernel_rfl) (by simp) ?_
        refine AllReadyL.cons (o := { dst := some 53, op := Go.Op.call { callee := Go.Callee.builtin Go.Builtin.append, args := #[Go.Operand.tmp 47, Go.Operand.tmp 52], argTypes := #[38, 38] }, type := 38, pos := "law.go:64", after := #[{ on := 4, ground := Go.Ground.data }, { on := 9, ground := Go.Ground.data }], guard := none }) rfl (fun K hK => ?_) ?_
        · refine step_appF et43 (by rfl) (.tmp 47) (.tmp 52) (by rfl) A.B v T.length (bkE.cs T) (by rfl) (HS6.out.own.keep (S := fun _ => False) (by (repeat (first | exact Keep.refl _ _ | exact Keep.refl _ _ | refine Keep.drew ?_ | refine Keep.drewN ?_ _ | refine Keep.alloc ?_ _ | refine Keep.setNew ?_ (by omega) _)); done) (fun _ _ => id)) ⟨w6.heap.size, 0, none⟩ 1 1 [.int .i64 (a' : Int), .int .i64 (o' : Int)] (by rfl) rfl (new_cells (heap_alloc_new w6.drew _)) (by simp [Value.oneCell']) (by unfold maxLen; omega) (by omega) (by have := HS6.out.base; simp; omega) ?_
          intro v53 w53 ho53 hg53 hv53
          obtain ⟨a53, l53, c53, rfl⟩ := own_slice ho53
          have HV53 : Hid (∀ z, (Value.slice a53 l53 c53).ownBlock = some z → v.ownBlock = some z ∨ w6.heap.size ≤ z) := fun z hz => (hv53 z hz).imp id (fun h => by simp at h; omega)
          have HK53 : Hid (Keep (fun z => v.ownBlock = some z) w6 w53) := Keep.grown (by (repeat (first | exact Keep.refl _ _ | exact Keep.refl _ _ | refine Keep.drew ?_ | refine Keep.drewN ?_ _ | refine Keep.alloc ?_ _ | refine Keep.setNew ?_ (by omega) _)); done) hg53 (fun x h1 h2 => h1)
          have HO53 : Hid (OwnL bkE w53 A.B 49 (.slice a53 l53 c53) (T ++ [⟨a', o'⟩])) := own_conv ho53 (by simp) (by rw [bkE.cs_append, bkE.cs_one]; rfl) (Nat.le_refl _)
          clear ho53 hg53 hv53
          refine hK.out _ _ (.inr (by (refine keepS3 (S := fun z => v.ownBlock = some z) ?_ (own_ne HS6.out HS6.out.hq (by decide)) (own_ne HS6.out HB6.out (by decide)) z2 fz d2; (repeat (first | exact HK53.out | exact Keep.refl _ _ | refine Keep.drew ?_ | refine Keep.drewN ?_ _ | refine Keep.alloc ?_ _ | refine Keep.setNew ?_ (by omega) _)); done))) (fun hS10 => ?_)
          replace hS10 := hS10.resolve_left (by decide)
          try simp only [Act.put, List.setIfInBounds_toArray, List.set_cons_zero, List.set_cons_succ]
          refine wpAnyL_ready (rs := [11]) (by kernel_rfl) (by simp) ?_
          refine AllReadyL.cons (o := { dst := some 54, op := Go.Op.nilCheck (Go.Operand.tmp 43), type := 0, pos := "law.go:64", after := #[{ on := 0, ground := Go.Ground.data }, { on := 0, ground := Go.Ground.phase }, { on := 1, ground := Go.Ground.phase }, { on := 2, ground := Go.Ground.phase }, { on := 3, ground := Go.Ground.phase }, { on := 4, ground := Go.Ground.phase }, { on := 5, ground := Go.Ground.phase }, { on := 6, ground := Go.Ground.phase }, { on := 7, ground := Go.Ground.phase }, { on := 8, ground := Go.Ground.phase }, { on := 9, ground := Go.Ground.phase }, { on := 10, ground := Go.Ground.phase }], guard := none }) rfl (fun K hK => ?_) ?_
          · go_simp
            refine hK.out _ _ (.inr (by (refine keepS3 (S := fun z => v.ownBlock = some z) ?_ (own_ne HS6.out HS6.out.hq (by decide)) (own_ne HS6.out HB6.out (by decide)) z2 fz d2; (repeat (first | exact HK53.out | exact Keep.refl _ _ | refine Keep.drew ?_ | refine Keep.drewN ?_ _ | refine Keep.alloc ?_ _ | refine Keep.setNew ?_ (by omega) _)); done))) (fun hS11 => ?_)
            replace hS11 := hS11.resolve_left (by decide)
            try simp only [Act.put, List.setIfInBounds_toArray, List.set_cons_zero, List.set_cons_succ]
            refine wpAnyL_take 12 (oi := { dst := some 55, op := Go.Op.fieldAddr 40 (Go.Operand.tmp 54) 2, type := 0, pos := "law.go:64", after := #[{ on := 11, ground := Go.Ground.data }, { on := 0, ground := Go.Ground.phase }, { on := 1, ground := Go.Ground.phase }, { on := 2, ground := Go.Ground.phase }, { on := 3, ground := Go.Ground.phase }, { on := 4, ground := Go.Ground.phase }, { on := 5, ground := Go.Ground.phase }, { on := 6, ground := Go.Ground.phase }, { on := 7, ground := Go.Ground.phase }, { on := 8, ground := Go.Ground.phase }, { on := 9, ground := Go.Ground.phase }, { on := 10, ground := Go.Ground.phase }], guard := none }) (v := ?_) rfl (by kernel_rfl) (by kernel_rfl) (by kernel_rfl) (by kernel_rfl) (fun _ _ _ h => h) (Or.inl ⟨by rfl, ?_⟩) (by assumption) ?_
            rotate_left
            · (intro w hSw; (try dsimp only at hSw); go_split_ands; go_simp; try (with_reducible rfl))
            simp only [Act.put, List.setIfInBounds_toArray, List.set_cons_zero, List.set_cons_succ]
            refine wpAnyL_ready (rs := [13]) (by kernel_rfl) (by simp) ?_
            refine AllReadyL.cons (o := { dst := none, op := Go.Op.store 38 (Go.Operand.tmp 55) (Go.Operand.tmp 53), type := 0, pos := "law.go:64", after := #[{ on := 12, ground := Go.Ground.data }, { on := 10, ground := Go.Ground.data }, { on := 10, ground := Go.Ground.chain }, { on := 0, ground := Go.Ground.phase }, { on := 1, ground := Go.Ground.phase }, { on := 2, ground := Go.Ground.phase }, { on := 3, ground := Go.Ground.phase }, { on := 4, ground := Go.Ground.phase }, { on := 5, ground := Go.Ground.phase }, { on := 6, ground := Go.Ground.phase }, { on := 7, ground := Go.Ground.phase }, { on := 8, ground := Go.Ground.phase }, { on := 9, ground := Go.Ground.phase }, { on := 10, ground := Go.Ground.phase }], guard := none }) rfl (fun K hK => ?_) ?_
            · go_simp
              refine hK.out _ _ (.inl rfl) (fun _ => ?_)
              try simp only [Act.put, List.setIfInBounds_toArray, List.set_cons_zero, List.set_cons_succ]
              refine wpAnyL_done (by kernel_rfl) ?_ _
              refine NoPanic.normal ?_
              have hput := HS6.out.putO HK53.out HO53.out HV53.out
              go_wp2
              go_ret
              exact ⟨rfl, _, _, _, ⟨_, hput.1, HT.out.push HBK.out.1 HBK.out.2.1 (blk_end HFN.out HBK.out.2.2) HBK.out.2.2, HM5.out⟩, by simp, UpO.trans HU6.out hput.2⟩
            exact AllReadyL.nil
          exact AllReadyL.nil
        exact AllReadyL.nil
      exact AllReadyL.nil

set_option maxRecDepth 100000 in
set_option maxHeartbeats 4000000 in
theorem do_set {w : World} {A : Ad} {q : Nat} {F : Nat → Bool} {M : Nat → Int} {T : List Bk} (f o y nn : Int) (h : Wd w A q F M T) :
    Calls Try.prog 10 #[.pointer (some ⟨q, 0, none⟩), .agg #[.int .i64 3, .int .i64 f, .int .i64 o, .int .i64 y, .int .i64 nn]] w (DoC w A q T) := by
  obtain ⟨v, hS, hT, hM⟩ := h
  have HT := Lib.hid hT
  have HS := Lib.hid hS
  have HM := Lib.hid hM
  clear hS hT hM
  go_enter Try.func10, Try.ntmps10
  go_wp2
  have HBX : Hid ((w.alloc (.cells #[.int .i64 3, .int .i64 f, .int .i64 o, .int .i64 y, .int .i64 nn] 31)).heap[w.heap.size]? = some (.cells #[.int .i64 3, .int .i64 f, .int .i64 o, .int .i64 y, .int .i64 nn] 31 (0, 0))) := heap_alloc_new w _
  have HK1 : Hid (Keep (fun _ => False) w (w.alloc (.cells #[.int .i64 3, .int .i64 f, .int .i64 o, .int .i64 y, .int .i64 nn] 31))) := (Keep.refl _ _).alloc _
  obtain ⟨b3, hb3⟩ : ∃ b3, w.heap.size = b3 := ⟨_, rfl⟩
  rw [hb3] at HBX ⊢
  generalize w.alloc (.cells #[.int .i64 3, .int .i64 f, .int .i64 o, .int .i64 y, .int .i64 nn] 31) = w1 at HBX HK1 ⊢
  clear hb3
  have HS1 := Lib.hid (HS.out.keep0 HK1.out)
  have HC1 := Lib.hid (cc_of HS1.out HBX.out)
  go_region_held3 (fun w' => CC q A.k A.X A.x b3 f o y w')
    (first | exact HC6.out | exact HC5.out | exact HC1.out)
    (first | (go_at_call 24; refine (duo_set f y (HS1.out.duo.keep0 (by (repeat (first | exact Keep.refl _ _ | exact Keep.refl _ _ | refine Keep.drew ?_ | refine Keep.drewN ?_ _ | refine Keep.alloc ?_ _ | refine Keep.setNew ?_ (by omega) _)); done)) HM.out).mono ?_; rintro e w5 ⟨er, M', rfl, hd5, hm5, hk5, hx5⟩; have HX5 := Lib.hid hx5; have HD5 := Lib.hid hd5; have HM5 := Lib.hid hm5; have HK5 : Hid (KU A w1 w5) := ku_on (by (repeat (first | exact Keep.refl _ _ | exact Keep.refl _ _ | refine Keep.drew ?_ | refine Keep.drewN ?_ _ | refine Keep.alloc ?_ _ | refine Keep.setNew ?_ (by omega) _)); done) hk5; have HC5 := Lib.hid (cc_ku HS1.out HBX.out HK5.out); clear hx5 hk5 hd5 hm5)
                  | (go_at_call 31; refine (HX5.out _ (HD5.out.keep0 (by (repeat (first | exact Keep.refl _ _ | exact Keep.refl _ _ | refine Keep.drew ?_ | refine Keep.drewN ?_ _ | refine Keep.alloc ?_ _ | refine Keep.setNew ?_ (by omega) _)); done))).mono ?_; rintro e w6 ⟨rfl, hd6, hk6⟩; have HK6 : Hid (KU A w1 w6) := HK5.out.trans (ku_on (by (repeat (first | exact Keep.refl _ _ | exact Keep.refl _ _ | refine Keep.drew ?_ | refine Keep.drewN ?_ _ | refine Keep.alloc ?_ _ | refine Keep.setNew ?_ (by omega) _)); done) hk6); have HS6 := Lib.hid (HS1.out.on HK6.out hd6); have HC6 := Lib.hid (cc_ku HS1.out HBX.out HK6.out); clear hd6 hk6))
  all_goals
    go_wp2
    go_ret
    exact ⟨rfl, _, _, _, ⟨_, HS6.out, HT.out, HM5.out⟩, by omega, UpO.trans (UpO.of HK1.out) (UpO.ku HS1.out.duo HK6.out)⟩

/- Part KZ: Kinds: do: Give of what was taken; TakeAt of both; do. -/
theorem cell_new1 {w : World} {b j : Nat} {o : Obj} {x : Value} (h : w.cell? ⟨b, j, none⟩ = some x) : (w.drew.alloc o).cell? ⟨b, j, none⟩ = some x :=
  (cell_alloc_lt (w := w.drew) (block_lt_cell h)).trans h
theorem cell_new2 {w : World} {b j : Nat} {o : Obj} {u v x : Value} (h : w.cell? ⟨b, j, none⟩ = some x) : (((w.drew.alloc o).setCell ⟨w.heap.size, 0, none⟩ u).setCell ⟨w.heap.size, 1, none⟩ v).cell? ⟨b, j, none⟩ = some x := by
  have hb := block_lt_cell h
  rw [cell_setCell_blk (by omega), cell_setCell_blk (by omega)]
  exact cell_new1 h
theorem keep_new2 {w : World} {o : Obj} {u v : Value} : Keep (fun _ => False) w (((w.drew.alloc o).setCell ⟨w.heap.size, 0, none⟩ u).setCell ⟨w.heap.size, 1, none⟩ v) :=
  ((((Keep.refl _ w).drew).alloc o).setNew (Nat.le_refl _) _).setNew (Nat.le_refl _) _
theorem block_new2 {w : World} {a b u v : Value} {e : TypeId} : (((w.drew.alloc (.cells #[a, b] e)).setCell ⟨w.heap.size, 0, none⟩ u).setCell ⟨w.heap.size, 1, none⟩ v).heap[w.heap.size]? = some (.cells #[u, v] e (0, 0)) := by
  have h := heap_alloc_new w.drew (.cells #[a, b] e)
  have h2 := heap_setCell_eq (i := 0) (u := u) h
  have h3 := heap_setCell_eq (i := 1) (u := v) h2
  simpa using h3
theorem cells4k {w w' : World} {a b c d i j k l : Nat} {v0 v1 v2 v3 : Value} (h : w.cell? ⟨a, i, none⟩ = some v0 ∧ w.cell? ⟨b, j, none⟩ = some v1 ∧ w.cell? ⟨c, k, none⟩ = some v2 ∧ w.cell? ⟨d, l, none⟩ = some v3) (K : Keep (fun _ => False) w w') :
    w'.cell? ⟨a, i, none⟩ = some v0 ∧ w'.cell? ⟨b, j, none⟩ = some v1 ∧ w'.cell? ⟨c, k, none⟩ = some v2 ∧ w'.cell? ⟨d, l, none⟩ = some v3 := by
  have f : ∀ {b j : Nat} {x : Value}, w.cell? ⟨b, j, none⟩ = some x → w'.cell? ⟨b, j, none⟩ = some x := fun h => (K.cell (block_lt_cell h) id).trans h
  exact ⟨f h.1, f h.2.1, f h.2.2.1, f h.2.2.2⟩
theorem new_facts (w : World) (e : TypeId) : ∀ m, ((w.drewN m).alloc (.cells #[.int .i64 0, .int .i64 0] e)).cell? ⟨w.heap.size, 0, none⟩ = some (.int .i64 0) ∧ ((w.drewN m).alloc (.cells #[.int .i64 0, .int .i64 0] e)).cell? ⟨w.heap.size, 1, none⟩ = some (.int .i64 0) ∧
    ((w.drewN m).alloc (.cells #[.int .i64 0, .int .i64 0] e)).frozen? ⟨w.heap.size, 0, none⟩ = false ∧ ((w.drewN m).alloc (.cells #[.int .i64 0, .int .i64 0] e)).frozen? ⟨w.heap.size, 1, none⟩ = false := fun m => by
  have h : ((w.drewN m).alloc (.cells #[.int .i64 0, .int .i64 0] e)).heap[w.heap.size]? = some (.cells #[.int .i64 0, .int .i64 0] e (0, 0)) := heap_alloc_new (w.drewN m) _
  exact ⟨(cell2b h).1, (cell2b h).2, frozen_block h, frozen_block h⟩
theorem keep_new2N {w : World} {o : Obj} {u v : Value} (m b : Nat) (hb : w.heap.size = b := by rfl) : Keep (fun _ => False) w ((((w.drewN m).alloc o).setCell ⟨b, 0, none⟩ u).setCell ⟨b, 1, none⟩ v) :=
  ((((Keep.refl _ w).drewN m).alloc o).setNew (Nat.le_of_eq hb) _).setNew (Nat.le_of_eq hb) _
theorem block_new2N {w : World} {a b u v : Value} {e : TypeId} (m c : Nat) (hc : w.heap.size = c := by rfl) : ((((w.drewN m).alloc (.cells #[a, b] e)).setCell ⟨c, 0, none⟩ u).setCell ⟨c, 1, none⟩ v).heap[c]? = some (.cells #[u, v] e (0, 0)) := by
  subst hc
  have h : ((w.drewN m).alloc (.cells #[a, b] e)).heap[w.heap.size]? = some (.cells #[a, b] e (0, 0)) := heap_alloc_new (w.drewN m) _
  have h2 := heap_setCell_eq (i := 0) (u := u) h
  have h3 := heap_setCell_eq (i := 1) (u := v) h2
  simpa using h3
theorem two_u4 {w : World} {q b e e' : Nat} {x0 x1 x2 y0 y1 : Value} (h : w.heap[q]? = some (.cells #[x0, x1, x2] e (0, 0))) (h' : w.heap[b]? = some (.cells #[y0, y1] e' (0, 0))) :
    w.cell? ⟨q, 0, none⟩ = some x0 ∧ w.cell? ⟨q, 1, none⟩ = some x1 ∧ w.cell? ⟨b, 0, none⟩ = some y0 ∧ w.cell? ⟨b, 1, none⟩ = some y1 := ⟨(cells3 h).1, (cells3 h).2.1, (cell2b h').1, (cell2b h').2⟩
abbrev GC (q k X x b : Nat) (f o : Int) (w : World) : Prop := w.cell? ⟨q, 0, none⟩ = some (.pointer (some ⟨k, 0, none⟩)) ∧ w.cell? ⟨q, 1, none⟩ = some (.pointer (some ⟨X, 0, none⟩)) ∧ w.cell? ⟨b, 0, none⟩ = some (.int .i64 f) ∧ w.cell? ⟨b, 1, none⟩ = some (.int .i64 o) ∧ w.cell? ⟨X, 0, none⟩ = some (.pointer (some ⟨x, 0, none⟩))
section
variable {w w' : World} {A : Ad} {q b : Nat} {F F' : Nat → Bool} {M M' : Nat → Int} {v : Value} {T : List Bk} {f o : Int}
theorem gc_of (h : St w A q F M F' M' v T) (hb : w.heap[b]? = some (.cells #[.int .i64 f, .int .i64 o] 49 (0, 0))) : GC q A.k A.X A.x b f o w :=
  ⟨(cells3 h.hq).1, (cells3 h.hq).2.1, (cell2b hb).1, (cell2b hb).2, (cell2b h.duo.rk.hX).1⟩
theorem gc_ku (h : St w A q F M F' M' v T) (hb : w.heap[b]? = some (.cells #[.int .i64 f, .int .i64 o] 49 (0, 0))) (k : KU A w w') : GC q A.k A.X A.x b f o w' := by
  have h1 := ku_block h.duo k h.hq (by decide)
  have h2 := ku_block h.duo k hb (by decide)
  have h3 := ku_block h.duo k h.duo.rk.hX (by decide)
  exact ⟨(cells3 h1).1, (cells3 h1).2.1, (cell2b h2).1, (cell2b h2).2, (cell2b h3).1⟩
theorem Wd.keep {w w' : World} {A : Ad} {q : Nat} {F : Nat → Bool} {M : Nat → Int} {T : List Bk} (h : Wd w A q F M T) (k : Keep (fun _ => False) w w') : Wd w' A q F M T := h.keep0 k
end

set_option maxRecDepth 100000 in
set_option maxHeartbeats 4000000 in
theorem do_give {w : World} {A : Ad} {q : Nat} {F : Nat → Bool} {M : Nat → Int} {T : List Bk} (f o y nn : Int) (h : Wd w A q F M T) (hl : T.length ≤ 5000) :
    Calls Try.prog 10 #[.pointer (some ⟨q, 0, none⟩), .agg #[.int .i64 4, .int .i64 f, .int .i64 o, .int .i64 y, .int .i64 nn]] w (fun e w' => e = .returned (.bool true) ∧ ∃ F' T', Wd w' A q F' M T' ∧ UpO q A.B w w' ∧ ((¬ (0 ≤ nn ∧ nn < T.length) ∧ T' = T) ∨ ∃ i : Nat, nn = i ∧ i < T.length ∧ T' = rmT T i)) := by
  have HW := Lib.hid h
  obtain ⟨v, hS, hT, hM⟩ := h
  have HS := Lib.hid hS
  obtain ⟨av, cv, rfl, -⟩ := HS.out.own.slice
  have hcase : (nn < 0) ∨ (0 ≤ nn ∧ (T.length : Int) ≤ nn) ∨ ∃ i : Nat, nn = i ∧ i < T.length := by
    rcases Int.lt_or_le nn 0 with h | h
    · exact .inl h
    · obtain ⟨i, rfl⟩ := Int.eq_ofNat_of_zero_le h
      by_cases hi : i < T.length
      · exact .inr (.inr ⟨i, rfl, hi⟩)
      · exact .inr (.inl ⟨h, by omega⟩)
  have HBX : Hid ((w.alloc (.cells #[.int .i64 4, .int .i64 f, .int .i64 o, .int .i64 y, .int .i64 nn] 31)).heap[w.heap.size]? = some (.cells #[.int .i64 4, .int .i64 f, .int .i64 o, .int .i64 y, .int .i64 nn] 31 (0, 0))) := heap_alloc_new w _
  have HK1 : Hid (Keep (fun _ => False) w (w.alloc (.cells #[.int .i64 4, .int .i64 f, .int .i64 o, .int .i64 y, .int .i64 nn] 31))) := (Keep.refl _ _).alloc _
  rcases hcase with h | ⟨h0, h1⟩ | ⟨i, rfl, hi⟩
  · have HN : Hid (¬ (0 ≤ nn ∧ nn < T.length)) := by unfold Hid; omega
    have t0 : decide (nn < 0) = true := by simp; omega
    clear h hS hT hM
    go_enter Try.func10, Try.ntmps10
    go_wp2
    obtain ⟨b3, hb3⟩ : ∃ b3, w.heap.size = b3 := ⟨_, rfl⟩
    rw [hb3] at HBX ⊢
    generalize w.alloc (.cells #[.int .i64 4, .int .i64 f, .int .i64 o, .int .i64 y, .int .i64 nn] 31) = w1 at HBX HK1 ⊢
    obtain ⟨-, -, -, d3, d4⟩ := cells5 HBX.out
    go_quiet (fail)
    go_wp2
    go_ret
    exact ⟨rfl, _, _, HW.out.keep0 (by (repeat (first | exact HK1.out | exact Keep.refl _ _ | refine Keep.drew ?_ | refine Keep.drewN ?_ _ | refine Keep.alloc ?_ _ | refine Keep.setNew ?_ (by omega) _)); done), UpO.of (by (repeat (first | exact HK1.out | exact Keep.refl _ _ | refine Keep.drew ?_ | refine Keep.drewN ?_ _ | refine Keep.alloc ?_ _ | refine Keep.setNew ?_ (by omega) _)); done), .inl ⟨HN.out, rfl⟩⟩
  · have HN : Hid (¬ (0 ≤ nn ∧ nn < T.length)) := by unfold Hid; omega
    have t0 : decide (nn < 0) = false := by simp; omega
    have t1 : decide ((T.length : Int) ≤ nn) = true := by simp; omega
    clear h0 h1 hS hT hM
    go_enter Try.func10, Try.ntmps10
    go_wp2
    obtain ⟨b3, hb3⟩ : ∃ b3, w.heap.size = b3 := ⟨_, rfl⟩
    rw [hb3] at HBX ⊢
    generalize w.alloc (.cells #[.int .i64 4, .int .i64 f, .int .i64 o, .int .i64 y, .int .i64 nn] 31) = w1 at HBX HK1 ⊢
    obtain ⟨-, -, -, d3, d4⟩ := cells5 HBX.out
    obtain ⟨z0, z1, z2⟩ := cells3 (HS.out.keep0 HK1.out).hq
    go_quiet (fail)
    go_wp2
    go_ret
    exact ⟨rfl, _, _, HW.out.keep0 (by (repeat (first | exact HK1.out | exact Keep.refl _ _ | refine Keep.drew ?_ | refine Keep.drewN ?_ _ | refine Keep.alloc ?_ _ | refine Keep.setNew ?_ (by omega) _)); done), UpO.of (by (repeat (first | exact HK1.out | exact Keep.refl _ _ | refine Keep.drew ?_ | refine Keep.drewN ?_ _ | refine Keep.alloc ?_ _ | refine Keep.setNew ?_ (by omega) _)); done), .inl ⟨HN.out, rfl⟩⟩
  · have hperm := rmT_perm hi
    have hlen := rmT_len hi
    obtain ⟨gv, cap, hgv, hBg, hcap, hgl⟩ := hS.own.form (by intro e; subst e; simp at hi)
    injection hgv with hgv _ hcv
    subst hgv; subst hcv
    have hok := hT.ok _ (List.getElem_mem hi)
    obtain ⟨c0, c1⟩ := bk_cells (hS.keep0 HK1.out).own hi
    obtain ⟨t, ht⟩ : ∃ t, T[i]'hi = t := ⟨_, rfl⟩
    rw [ht] at hok hperm c0 c1
    obtain ⟨a, k, rfl, hk8, hak, han⟩ := hok
    have HT := Lib.hid (hT.perm hperm)
    have HM := Lib.hid hM
    have HOK := Lib.hid (And.intro hk8 (And.intro hak han))
    obtain ⟨vlo, hlo, hrlo⟩ := sl_lo et43 hS.own (Nat.le_of_lt hi)
    obtain ⟨vhi, hhi, hrhi⟩ := sl_hi et43 hS.own (i := i + 1) (by omega) (↑i + 1) (by simp)
    have RLO := Lib.hid (hrlo.keep HK1.out (fun _ _ _ _ => id))
    have RHI := Lib.hid (hrhi.keep HK1.out (fun _ _ _ _ => id))
    have k0 : (0 : Int) ≤ i := by omega
    have k1 : (i : Int) < T.length := by omega
    have hw1 : IntKind.i64.wrap (↑i + 1) = ↑i + 1 := IntWalk.i64_in _ (by omega)
    have t0 : decide ((i : Int) < 0) = false := by simp
    have t1 : decide ((T.length : Int) ≤ (i : Int)) = false := by simp; omega
    have t2 : decide (T.length ≤ i) = false := by simp; omega
    clear hrlo hrhi hT hM hS hperm ht hak han
    go_enter Try.func10, Try.ntmps10
    go_wp2
    obtain ⟨b3, hb3⟩ : ∃ b3, w.heap.size = b3 := ⟨_, rfl⟩
    rw [hb3] at HBX ⊢
    generalize w.alloc (.cells #[.int .i64 4, .int .i64 f, .int .i64 o, .int .i64 y, .int .i64 (i : Int)] 31) = w1 at HBX HK1 RLO RHI c0 c1 ⊢
    clear hb3
    have HS1 := Lib.hid (HS.out.keep0 HK1.out)
    obtain ⟨-, -, -, d3, d4⟩ := cells5 HBX.out
    obtain ⟨z0, z1, z2⟩ := cells3 HS1.out.hq
    have fz : w1.frozen? ⟨q, 2, none⟩ = false := frozen_block HS1.out.hq
    go_quiet (fail)
    go_wp2
    have N := new_facts w1 49
    have G := fun m => (cells4k (w' := (w1.drewN m).alloc (.cells #[.int .i64 0, .int .i64 0] 49)) ⟨z2, d4, c0, c1⟩ (Keep.alloc (Keep.drewN (Keep.refl _ _) m) _))
    have g0 := fun m => (G m).1
    have g1 := fun m => (G m).2.1
    have g2 := fun m => (G m).2.2.1
    have g3 := fun m => (G m).2.2.2
    have n0 := fun m => (N m).1
    have n1 := fun m => (N m).2.1
    have n2 := fun m => (N m).2.2.1
    have n3 := fun m => (N m).2.2.2
    clear G N
    go_region
    have HB9 : Hid (((((w1.drewN (nq + 1)).alloc (.cells #[.int .i64 0, .int .i64 0] 49)).setCell ⟨w1.heap.size, 0, none⟩ (.int .i64 (a : Int))).setCell ⟨w1.heap.size, 1, none⟩ (.int .i64 (k : Int))).heap[w1.heap.size]? = some (.cells #[.int .i64 (a : Int), .int .i64 (k : Int)] 49 (0, 0))) := block_new2N _ _
    have HK2 : Hid (Keep (fun _ => False) w1 ((((w1.drewN (nq + 1)).alloc (.cells #[.int .i64 0, .int .i64 0] 49)).setCell ⟨w1.heap.size, 0, none⟩ (.int .i64 (a : Int))).setCell ⟨w1.heap.size, 1, none⟩ (.int .i64 (k : Int)))) := keep_new2N _ _
    clear g0 g1 g2 g3 n0 n1 n2 n3
    obtain ⟨b9, hb9⟩ : ∃ b9, w1.heap.size = b9 := ⟨_, rfl⟩
    have HB9E := Lib.hid hb9
    rw [hb9] at HB9 HK2 ⊢
    generalize (((w1.drewN (nq + 1)).alloc (.cells #[.int .i64 0, .int .i64 0] 49)).setCell ⟨b9, 0, none⟩ (.int .i64 (a : Int))).setCell ⟨b9, 1, none⟩ (.int .i64 (k : Int)) = w2 at HB9 HK2 ⊢
    clear hb9 z0 z1 z2 d3 d4 c0 c1 fz
    have HS2 := Lib.hid (HS1.out.keep0 HK2.out)
    have HBX2 := Lib.hid ((HK2.out.block b3 (block_lt HBX.out) id).trans HBX.out)
    have RLO2 := Lib.hid (RLO.out.keep HK2.out (fun _ _ _ _ => id))
    have RHI2 := Lib.hid (RHI.out.keep HK2.out (fun _ _ _ _ => id))
    obtain ⟨-, -, -, -, d4⟩ := cells5 HBX2.out
    obtain ⟨-, -, z2⟩ := cells3 HS2.out.hq
    have fz : w2.frozen? ⟨q, 2, none⟩ = false := frozen_block HS2.out.hq
    clear RLO RHI
    go_wp2
    refine wp_region_noPanic ?_
    refine wp_region_L (fun w' => w'.cell? ⟨q, 2, none⟩ = some (.slice (some ⟨gv, 0, none⟩) T.length cv) ∧ w'.frozen? ⟨q, 2, none⟩ = false ∧ w'.cell? ⟨b3, 4, none⟩ = some (.int .i64 (i : Int))) 21 (by kernel_rfl) (by (refine keepS3 (S := fun _ => False) ?_ id id z2 fz d4; (repeat (first | exact HK126.out | exact HK117.out | exact Keep.refl _ _ | refine Keep.drew ?_ | refine Keep.drewN ?_ _ | refine Keep.alloc ?_ _ | refine Keep.setNew ?_ (by omega) _)); done)) (fun hS0 => ?_)
    refine wpAnyL_take 0 (oi := { dst := some 108, op := Go.Op.move (Go.Operand.tmp 0), type := 25, pos := "law.go:74", after := #[], guard := none }) (v := ?_) rfl (by kernel_rfl) (by kernel_rfl) (by kernel_rfl) (by kernel_rfl) (fun _ _ _ h => h) (Or.inl ⟨by rfl, ?_⟩) (by assumption) ?_
    rotate_left
    · (intro w hSw; (try dsimp only at hSw); go_split_ands; go_simp; try (with_reducible rfl))
    simp only [Act.put, List.setIfInBounds_toArray, List.set_cons_zero, List.set_cons_succ]
    refine wpAnyL_take 2 (oi := { dst := some 110, op := Go.Op.move (Go.Operand.tmp 0), type := 25, pos := "law.go:74", after := #[], guard := none }) (v := ?_) rfl (by kernel_rfl) (by kernel_rfl) (by kernel_rfl) (by kernel_rfl) (fun _ _ _ h => h) (Or.inl ⟨by rfl, ?_⟩) (by assumption) ?_
    rotate_left
    · (intro w hSw; (try dsimp only at hSw); go_split_ands; go_simp; try (with_reducible rfl))
    simp only [Act.put, List.setIfInBounds_toArray, List.set_cons_zero, List.set_cons_succ]
    refine wpAnyL_take 3 (oi := { dst := some 111, op := Go.Op.nilCheck (Go.Operand.tmp 110), type := 0, pos := "law.go:74", after := #[{ on := 2, ground := Go.Ground.data }], guard := none }) (v := ?_) rfl (by kernel_rfl) (by kernel_rfl) (by kernel_rfl) (by kernel_rfl) (fun _ _ _ h => h) (Or.inl ⟨by rfl, ?_⟩) (by assumption) ?_
    rotate_left
    · (intro w hSw; (try dsimp only at hSw); go_split_ands; go_simp; try (with_reducible rfl))
    simp only [Act.put, List.setIfInBounds_toArray, List.set_cons_zero, List.set_cons_succ]
    refine wpAnyL_take 4 (oi := { dst := some 112, op := Go.Op.fieldAddr 40 (Go.Operand.tmp 111) 2, type := 0, pos := "law.go:74", after := #[{ on := 3, ground := Go.Ground.data }], guard := none }) (v := ?_) rfl (by kernel_rfl) (by kernel_rfl) (by kernel_rfl) (by kernel_rfl) (fun _ _ _ h => h) (Or.inl ⟨by rfl, ?_⟩) (by assumption) ?_
    rotate_left
    · (intro w hSw; (try dsimp only at hSw); go_split_ands; go_simp; try (with_reducible rfl))
    simp only [Act.put, List.setIfInBounds_toArray, List.set_cons_zero, List.set_cons_succ]
    refine wpAnyL_take 5 (oi := { dst := some 113, op := Go.Op.load 38 (Go.Operand.tmp 112), type := 38, pos := "law.go:74", after := #[{ on := 4, ground := Go.Ground.data }], guard := none }) (v := ?_) rfl (by kernel_rfl) (by kernel_rfl) (by kernel_rfl) (by kernel_rfl) (fun _ _ _ h => h) (Or.inl ⟨by rfl, ?_⟩) (by assumption) ?_
    rotate_left
    · (intro w hSw; (try dsimp only at hSw); go_split_ands; go_simp; try (with_reducible rfl))
    simp only [Act.put, List.setIfInBounds_toArray, List.set_cons_zero, List.set_cons_succ]
    refine wpAnyL_take 6 (oi := { dst := some 114, op := Go.Op.fieldAddr 31 (Go.Operand.tmp 3) 4, type := 0, pos := "law.go:74", after := #[], guard := none }) (v := ?_) rfl (by kernel_rfl) (by kernel_rfl) (by kernel_rfl) (by kernel_rfl) (fun _ _ _ h => h) (Or.inl ⟨by rfl, ?_⟩) (by assumption) ?_
    rotate_left
    · (intro w hSw; (try dsimp only at hSw); go_split_ands; go_simp; try (with_reducible rfl))
    simp only [Act.put, List.setIfInBounds_toArray, List.set_cons_zero, List.set_cons_succ]
    refine wpAnyL_take 7 (oi := { dst := some 115, op := Go.Op.load 3 (Go.Operand.tmp 114), type := 3, pos := "law.go:74", after := #[{ on := 6, ground := Go.Ground.data }], guard := none }) (v := ?_) rfl (by kernel_rfl) (by kernel_rfl) (by kernel_rfl) (by kernel_rfl) (fun _ _ _ h => h) (Or.inl ⟨by rfl, ?_⟩) (by assumption) ?_
    rotate_left
    · (intro w hSw; (try dsimp only at hSw); go_split_ands; go_simp; try (with_reducible rfl))
    simp only [Act.put, List.setIfInBounds_toArray, List.set_cons_zero, List.set_cons_succ]
    refine wpAnyL_take 8 (oi := { dst := some 116, op := Go.Op.slice 38 (Go.Operand.tmp 113) none (some (Go.Operand.tmp 115)) none, type := 38, pos := "law.go:74", after := #[{ on := 5, ground := Go.Ground.data }, { on := 7, ground := Go.Ground.data }], guard := none }) (v := ?_) rfl (by kernel_rfl) (by kernel_rfl) (by kernel_rfl) (by kernel_rfl) (fun _ _ _ h => h) (Or.inl ⟨by rfl, ?_⟩) (by assumption) ?_
    rotate_left
    · (intro w hSw; (try dsimp only at hSw); go_split_ands; go_simp; try (with_reducible rfl))
    simp only [Act.put, List.setIfInBounds_toArray, List.set_cons_zero, List.set_cons_succ]
    refine wpAnyL_take 10 (oi := { dst := some 118, op := Go.Op.move (Go.Operand.tmp 0), type := 25, pos := "law.go:74", after := #[], guard := none }) (v := ?_) rfl (by kernel_rfl) (by kernel_rfl) (by kernel_rfl) (by kernel_rfl) (fun _ _ _ h => h) (Or.inl ⟨by rfl, ?_⟩) (by assumption) ?_
    rotate_left
    · (intro w hSw; (try dsimp only at hSw); go_split_ands; go_simp; try (with_reducible rfl))
    simp only [Act.put, List.setIfInBounds_toArray, List.set_cons_zero, List.set_cons_succ]
    refine wpAnyL_take 11 (oi := { dst := some 119, op := Go.Op.nilCheck (Go.Operand.tmp 118), type := 0, pos := "law.go:74", after := #[{ on := 10, ground := Go.Ground.data }], guard := none }) (v := ?_) rfl (by kernel_rfl) (by kernel_rfl) (by kernel_rfl) (by kernel_rfl) (fun _ _ _ h => h) (Or.inl ⟨by rfl, ?_⟩) (by assumption) ?_
    rotate_left
    · (intro w hSw; (try dsimp only at hSw); go_split_ands; go_simp; try (with_reducible rfl))
    simp only [Act.put, List.setIfInBounds_toArray, List.set_cons_zero, List.set_cons_succ]
    refine wpAnyL_take 12 (oi := { dst := some 120, op := Go.Op.fieldAddr 40 (Go.Operand.tmp 119) 2, type := 0, pos := "law.go:74", after := #[{ on := 11, ground := Go.Ground.data }], guard := none }) (v := ?_) rfl (by kernel_rfl) (by kernel_rfl) (by kernel_rfl) (by kernel_rfl) (fun _ _ _ h => h) (Or.inl ⟨by rfl, ?_⟩) (by assumption) ?_
    rotate_left
    · (intro w hSw; (try dsimp only at hSw); go_split_ands; go_simp; try (with_reducible rfl))
    simp only [Act.put, List.setIfInBounds_toArray, List.set_cons_zero, List.set_cons_succ]
    refine wpAnyL_take 13 (oi := { dst := some 121, op := Go.Op.load 38 (Go.Operand.tmp 120), type := 38, pos := "law.go:74", after := #[{ on := 12, ground := Go.Ground.data }], guard := none }) (v := ?_) rfl (by kernel_rfl) (by kernel_rfl) (by kernel_rfl) (by kernel_rfl) (fun _ _ _ h => h) (Or.inl ⟨by rfl, ?_⟩) (by assumption) ?_
    rotate_left
    · (intro w hSw; (try dsimp only at hSw); go_split_ands; go_simp; try (with_reducible rfl))
    simp only [Act.put, List.setIfInBounds_toArray, List.set_cons_zero, List.set_cons_succ]
    refine wpAnyL_take 14 (oi := { dst := some 122, op := Go.Op.fieldAddr 31 (Go.Operand.tmp 3) 4, type := 0, pos := "law.go:74", after := #[], guard := none }) (v := ?_) rfl (by kernel_rfl) (by kernel_rfl) (by kernel_rfl) (by kernel_rfl) (fun _ _ _ h => h) (Or.inl ⟨by rfl, ?_⟩) (by assumption) ?_
    rotate_left
    · (intro w hSw; (try dsimp only at hSw); go_split_ands; go_simp; try (with_reducible rfl))
    simp only [Act.put, List.setIfInBounds_toArray, List.set_cons_zero, List.set_cons_succ]
    refine wpAnyL_take 15 (oi := { dst := some 123, op := Go.Op.load 3 (Go.Operand.tmp 122), type := 3, pos := "law.go:74", after := #[{ on := 14, ground := Go.Ground.data }], guard := none }) (v := ?_) rfl (by kernel_rfl) (by kernel_rfl) (by kernel_rfl) (by kernel_rfl) (fun _ _ _ h => h) (Or.inl ⟨by rfl, ?_⟩) (by assumption) ?_
    rotate_left
    · (intro w hSw; (try dsimp only at hSw); go_split_ands; go_simp; try (with_reducible rfl))
    simp only [Act.put, List.setIfInBounds_toArray, List.set_cons_zero, List.set_cons_succ]
    refine wpAnyL_take 16 (oi := { dst := some 124, op := Go.Op.binOp Go.BinOp.add 3 (Go.Operand.tmp 123) (Go.Operand.const (Go.Value.int Go.IntKind.i64 1)) 3, type := 3, pos := "law.go:74", after := #[{ on := 15, ground := Go.Ground.data }], guard := none }) (v := ?_) rfl (by kernel_rfl) (by kernel_rfl) (by kernel_rfl) (by kernel_rfl) (fun _ _ _ h => h) (Or.inl ⟨by rfl, ?_⟩) (by assumption) ?_
    rotate_left
    · (intro w hSw; (try dsimp only at hSw); go_split_ands; go_simp; try (with_reducible rfl))
    simp only [Act.put, List.setIfInBounds_toArray, List.set_cons_zero, List.set_cons_succ]
    refine wpAnyL_take 17 (oi := { dst := some 125, op := Go.Op.slice 38 (Go.Operand.tmp 121) (some (Go.Operand.tmp 124)) none none, type := 38, pos := "law.go:74", after := #[{ on := 13, ground := Go.Ground.data }, { on := 16, ground := Go.Ground.data }], guard := none }) (v := ?_) rfl (by kernel_rfl) (by kernel_rfl) (by kernel_rfl) (by kernel_rfl) (fun _ _ _ h => h) (Or.inl ⟨by rfl, ?_⟩) (by assumption) ?_
    rotate_left
    · (intro w hSw; (try dsimp only at hSw); go_split_ands; go_simp; try (with_reducible rfl))
    simp only [Act.put, List.setIfInBounds_toArray, List.set_cons_zero, List.set_cons_succ]
    refine wpAnyL_ready (rs := [1]) (by kernel_rfl) (by simp) ?_
    refine AllReadyL.cons (o := { dst := some 109, op := Go.Op.buildSlice 38 0 #[], type := 38, pos := "law.go:74", after := #[], guard := none }) rfl (fun K hK => ?_) ?_
    · go_simp
      refine hK.out _ _ (.inr (by (refine keepS3 (S := fun _ => False) ?_ id id z2 fz d4; (repeat (first | exact HK126.out | exact HK117.out | exact Keep.refl _ _ | refine Keep.drew ?_ | refine Keep.drewN ?_ _ | refine Keep.alloc ?_ _ | refine Keep.setNew ?_ (by omega) _)); done))) (fun hS16 => ?_)
      replace hS16 := hS16.resolve_left (by decide)
      try simp only [Act.put, List.setIfInBounds_toArray, List.set_cons_zero, List.set_cons_succ]
      refine wpAnyL_ready (rs := [9]) (by kernel_rfl) (by simp) ?_
      refine AllReadyL.cons (o := { dst := some 117, op := Go.Op.call { callee := Go.Callee.builtin Go.Builtin.append, args := #[Go.Operand.tmp 109, Go.Operand.tmp 116], argTypes := #[38, 38] }, type := 38, pos := "law.go:74", after := #[{ on := 1, ground := Go.Ground.data }, { on := 8, ground := Go.Ground.data }], guard := none }) rfl (fun K hK => ?_) ?_
      · refine step_app et43 (by rfl) (.tmp 109) (.tmp 116) (by rfl) w2.heap.size (.slice (some ⟨w2.heap.size, 0, none⟩) 0 0) 0 [] (by rfl) (own_empty_at (heap_alloc_new w2 _) (Nat.le_refl _)) vlo i (bkE.cs (T.take i)) (by rfl) (RLO2.out.keep (S := fun _ => False) (by (repeat (first | exact Keep.refl _ _ | exact Keep.refl _ _ | refine Keep.drew ?_ | refine Keep.drewN ?_ _ | refine Keep.alloc ?_ _ | refine Keep.setNew ?_ (by omega) _)); done) (fun _ _ _ _ => id)) (bkE.cs_one_cell _) (by unfold maxLen; omega) (by omega) (by simp) ?_
        intro v117 w117 ho117 hg117
        have HK117 : Hid (Keep (fun _ => False) w2 w117) := Keep.grown (by (repeat (first | exact Keep.refl _ _ | exact Keep.refl _ _ | refine Keep.drew ?_ | refine Keep.drewN ?_ _ | refine Keep.alloc ?_ _ | refine Keep.setNew ?_ (by omega) _)); done) hg117 (fun x h1 h2 => by simp [Value.ownBlock] at h1; omega)
        have HO117 := Lib.hid ho117
        clear ho117 hg117
        refine hK.out _ _ (.inr (by (refine keepS3 (S := fun _ => False) ?_ id id z2 fz d4; (repeat (first | exact HK126.out | exact HK117.out | exact Keep.refl _ _ | refine Keep.drew ?_ | refine Keep.drewN ?_ _ | refine Keep.alloc ?_ _ | refine Keep.setNew ?_ (by omega) _)); done))) (fun hS17 => ?_)
        replace hS17 := hS17.resolve_left (by decide)
        try simp only [Act.put, List.setIfInBounds_toArray, List.set_cons_zero, List.set_cons_succ]
        refine wpAnyL_ready (rs := [18]) (by kernel_rfl) (by simp) ?_
        refine AllReadyL.cons (o := { dst := some 126, op := Go.Op.call { callee := Go.Callee.builtin Go.Builtin.append, args := #[Go.Operand.tmp 117, Go.Operand.tmp 125], argTypes := #[38, 38] }, type := 38, pos := "law.go:74", after := #[{ on := 9, ground := Go.Ground.data }, { on := 17, ground := Go.Ground.data }, { on := 9, ground := Go.Ground.chain }], guard := none }) rfl (fun K hK => ?_) ?_
        · refine step_app et43 (by rfl) (.tmp 117) (.tmp 125) (by rfl) w2.heap.size v117 _ _ (by rfl) HO117.out vhi (T.length - (i + 1)) (bkE.cs (T.drop (i + 1))) (by rfl) (RHI2.out.keep HK117.out (fun _ _ _ _ => id)) (bkE.cs_one_cell _) (by unfold maxLen; omega) (by omega) (by have := HK117.out.size; omega) ?_
          intro v126 w126 ho126 hg126
          obtain ⟨a126, l126, c126, rfl⟩ := own_slice ho126
          have HK126 : Hid (Keep (fun _ => False) w2 w126) := Keep.grown HK117.out hg126 (fun x h1 h2 => by have := (HO117.out.lt x h1).1; omega)
          have HL126 : Hid (∀ x, (Value.slice a126 l126 c126).ownBlock = some x → w2.heap.size ≤ x) := fun x hx => (World.ownsRow.lt ho126 x hx).1
          have HO126 : Hid (OwnL bkE w126 A.B 49 (.slice a126 l126 c126) (rmT T i)) := own_conv ho126 (by unfold rmT; simp; omega) (by unfold rmT; rw [bkE.cs_append, List.nil_append]) (by have := HS2.out.base; omega)
          clear ho126 hg126
          refine hK.out _ _ (.inr (by (refine keepS3 (S := fun _ => False) ?_ id id z2 fz d4; (repeat (first | exact HK126.out | exact HK117.out | exact Keep.refl _ _ | refine Keep.drew ?_ | refine Keep.drewN ?_ _ | refine Keep.alloc ?_ _ | refine Keep.setNew ?_ (by omega) _)); done))) (fun hS18 => ?_)
          replace hS18 := hS18.resolve_left (by decide)
          try simp only [Act.put, List.setIfInBounds_toArray, List.set_cons_zero, List.set_cons_succ]
          refine wpAnyL_ready (rs := [19]) (by kernel_rfl) (by simp) ?_
          refine AllReadyL.cons (o := { dst := some 127, op := Go.Op.nilCheck (Go.Operand.tmp 108), type := 0, pos := "law.go:74", after := #[{ on := 0, ground := Go.Ground.data }, { on := 0, ground := Go.Ground.phase }, { on := 1, ground := Go.Ground.phase }, { on := 2, ground := Go.Ground.phase }, { on := 3, ground := Go.Ground.phase }, { on := 4, ground := Go.Ground.phase }, { on := 5, ground := Go.Ground.phase }, { on := 6, ground := Go.Ground.phase }, { on := 7, ground := Go.Ground.phase }, { on := 8, ground := Go.Ground.phase }, { on := 9, ground := Go.Ground.phase }, { on := 10, ground := Go.Ground.phase }, { on := 11, ground := Go.Ground.phase }, { on := 12, ground := Go.Ground.phase }, { on := 13, ground := Go.Ground.phase }, { on := 14, ground := Go.Ground.phase }, { on := 15, ground := Go.Ground.phase }, { on := 16, ground := Go.Ground.phase }, { on := 17, ground := Go.Ground.phase }, { on := 18, ground := Go.Ground.phase }], guard := none }) rfl (fun K hK => ?_) ?_
          · go_simp
            refine hK.out _ _ (.inr (by (refine keepS3 (S := fun _ => False) ?_ id id z2 fz d4; (repeat (first | exact HK126.out | exact HK117.out | exact Keep.refl _ _ | refine Keep.drew ?_ | refine Keep.drewN ?_ _ | refine Keep.alloc ?_ _ | refine Keep.setNew ?_ (by omega) _)); done))) (fun hS19 => ?_)
            replace hS19 := hS19.resolve_left (by decide)
            try simp only [Act.put, List.setIfInBounds_toArray, List.set_cons_zero, List.set_cons_succ]
            refine wpAnyL_take 20 (oi := { dst := some 128, op := Go.Op.fieldAddr 40 (Go.Operand.tmp 127) 2, type := 0, pos := "law.go:74", after := #[{ on := 19, ground := Go.Ground.data }, { on := 0, ground := Go.Ground.phase }, { on := 1, ground := Go.Ground.phase }, { on := 2, ground := Go.Ground.phase }, { on := 3, ground := Go.Ground.phase }, { on := 4, ground := Go.Ground.phase }, { on := 5, ground := Go.Ground.phase }, { on := 6, ground := Go.Ground.phase }, { on := 7, ground := Go.Ground.phase }, { on := 8, ground := Go.Ground.phase }, { on := 9, ground := Go.Ground.phase }, { on := 10, ground := Go.Ground.phase }, { on := 11, ground := Go.Ground.phase }, { on := 12, ground := Go.Ground.phase }, { on := 13, ground := Go.Ground.phase }, { on := 14, ground := Go.Ground.phase }, { on := 15, ground := Go.Ground.phase }, { on := 16, ground := Go.Ground.phase }, { on := 17, ground := Go.Ground.phase }, { on := 18, ground := Go.Ground.phase }], guard := none }) (v := ?_) rfl (by kernel_rfl) (by kernel_rfl) (by kernel_rfl) (by kernel_rfl) (fun _ _ _ h => h) (Or.inl ⟨by rfl, ?_⟩) (by assumption) ?_
            rotate_left
            · (intro w hSw; (try dsimp only at hSw); go_split_ands; go_simp; try (with_reducible rfl))
            simp only [Act.put, List.setIfInBounds_toArray, List.set_cons_zero, List.set_cons_succ]
            refine wpAnyL_ready (rs := [21]) (by kernel_rfl) (by simp) ?_
            refine AllReadyL.cons (o := { dst := none, op := Go.Op.store 38 (Go.Operand.tmp 128) (Go.Operand.tmp 126), type := 0, pos := "law.go:74", after := #[{ on := 20, ground := Go.Ground.data }, { on := 18, ground := Go.Ground.data }, { on := 18, ground := Go.Ground.chain }, { on := 0, ground := Go.Ground.phase }, { on := 1, ground := Go.Ground.phase }, { on := 2, ground := Go.Ground.phase }, { on := 3, ground := Go.Ground.phase }, { on := 4, ground := Go.Ground.phase }, { on := 5, ground := Go.Ground.phase }, { on := 6, ground := Go.Ground.phase }, { on := 7, ground := Go.Ground.phase }, { on := 8, ground := Go.Ground.phase }, { on := 9, ground := Go.Ground.phase }, { on := 10, ground := Go.Ground.phase }, { on := 11, ground := Go.Ground.phase }, { on := 12, ground := Go.Ground.phase }, { on := 13, ground := Go.Ground.phase }, { on := 14, ground := Go.Ground.phase }, { on := 15, ground := Go.Ground.phase }, { on := 16, ground := Go.Ground.phase }, { on := 17, ground := Go.Ground.phase }, { on := 18, ground := Go.Ground.phase }], guard := none }) rfl (fun K hK => ?_) ?_
            · go_simp
              refine hK.out _ _ (.inl rfl) (fun _ => ?_)
              try simp only [Act.put, List.setIfInBounds_toArray, List.set_cons_zero, List.set_cons_succ]
              refine wpAnyL_done (by kernel_rfl) ?_ _
              refine NoPanic.normal ?_
              have hput := HS2.out.putO (HK126.out.mono (fun _ _ h => h.elim)) HO126.out (fun z hz => .inr (HL126.out z hz))
              have HB3 : Hid ((w126.setCell ⟨q, 2, none⟩ (.slice a126 l126 c126)).heap[b9]? = some (.cells #[.int .i64 (a : Int), .int .i64 (k : Int)] 49 (0, 0))) := by
                unfold Hid
                rw [heap_setCell_ne (typ_ne HB9.out HS2.out.hq (by decide))]
                exact (HK126.out.block b9 (block_lt HB9.out) id).trans HB9.out
              have HS3 := Lib.hid hput.1
              have HU3 := Lib.hid hput.2
              clear hput z2 fz d4
              generalize w126.setCell ⟨q, 2, none⟩ (.slice a126 l126 c126) = w3 at HB3 HS3 HU3 ⊢
              have HG3 := Lib.hid (gc_of HS3.out HB3.out)
              obtain ⟨y0, y1, y2, y3, y4⟩ := HG3.out
              have HA3 : Hid (∀ z, a ≤ z → z < a + 2 ^ k → F z = false) := fun z h1 h2 => HT.out.no _ (List.mem_cons_self ..) z ((inT_iff _ _ _).mpr ⟨h1, h2⟩)
              go_wp2
              go_region_held3 (fun w' => GC q A.k A.X A.x b9 (a : Int) (k : Int) w')
                (first | exact HG6.out | exact HG5.out | exact HG3.out)
                (first | (go_at_call 23; refine (duo_give (HS3.out.duo.keep0 (by (repeat (first | exact Keep.refl _ _ | exact Keep.refl _ _ | refine Keep.drew ?_ | refine Keep.drewN ?_ _ | refine Keep.alloc ?_ _ | refine Keep.setNew ?_ (by omega) _)); done)) HOK.out.1 HOK.out.2.1 HOK.out.2.2 HA3.out).mono ?_; rintro e w5 ⟨rfl, hd5, hk5, hx5⟩; have HX5 := Lib.hid hx5; have HD5 := Lib.hid hd5; have HK5 : Hid (KU A w3 w5) := ku_on (by (repeat (first | exact Keep.refl _ _ | exact Keep.refl _ _ | refine Keep.drew ?_ | refine Keep.drewN ?_ _ | refine Keep.alloc ?_ _ | refine Keep.setNew ?_ (by omega) _)); done) hk5; have HG5 := Lib.hid (gc_ku HS3.out HB3.out HK5.out); clear hx5 hk5 hd5) | (go_at_call 32; refine (HX5.out _ (HD5.out.keep0 (by (repeat (first | exact Keep.refl _ _ | exact Keep.refl _ _ | refine Keep.drew ?_ | refine Keep.drewN ?_ _ | refine Keep.alloc ?_ _ | refine Keep.setNew ?_ (by omega) _)); done))).mono ?_; rintro e w6 ⟨rfl, hd6, hk6⟩; have HK6 : Hid (KU A w3 w6) := HK5.out.trans (ku_on (by (repeat (first | exact Keep.refl _ _ | exact Keep.refl _ _ | refine Keep.drew ?_ | refine Keep.drewN ?_ _ | refine Keep.alloc ?_ _ | refine Keep.setNew ?_ (by omega) _)); done) hk6); have HS6 := Lib.hid (HS3.out.on HK6.out hd6); have HG6 := Lib.hid (gc_ku HS3.out HB3.out HK6.out); clear hd6 hk6))
              all_goals
                go_wp2
                go_ret
                exact ⟨rfl, _, _, ⟨_, HS6.out, HT.out.add, HM.out⟩, (UpO.of (HK1.out.trans HK2.out)).trans (HU3.out.trans (UpO.ku HS3.out.duo HK6.out)), .inr ⟨i, rfl, hi, rfl⟩⟩
            exact AllReadyL.nil
          exact AllReadyL.nil
        exact AllReadyL.nil
      exact AllReadyL.nil
    exact AllReadyL.nil

/- Part LA: Kinds: do: TakeAt of both; do. -/
set_option maxRecDepth 100000 in
set_option maxHeartbeats 4000000 in
theorem do_chg {w : World} {A : Ad} {q : Nat} {F : Nat → Bool} {M : Nat → Int} {T : List Bk} (Kd f o y nn : Int) (hf : i64B f) (hK : Kd ≠ 0 ∧ Kd ≠ 1 ∧ Kd ≠ 2 ∧ Kd ≠ 3 ∧ Kd ≠ 4) (h : Wd w A q F M T) (hl : T.length ≤ 5000) :
    Calls Try.prog 10 #[.pointer (some ⟨q, 0, none⟩), .agg #[.int .i64 Kd, .int .i64 f, .int .i64 o, .int .i64 y, .int .i64 nn]] w (DoC w A q T) := by
  obtain ⟨v, hS, hT, hM⟩ := h
  have HT := Lib.hid hT
  have HS := Lib.hid hS
  have HM := Lib.hid hM
  have HF := Lib.hid hf
  clear hS hT hM hf
  obtain ⟨q0, q1, q2, q3, q4⟩ := sw5 hK
  clear hK
  go_enter Try.func10, Try.ntmps10
  go_wp2
  have HBX : Hid ((w.alloc (.cells #[.int .i64 Kd, .int .i64 f, .int .i64 o, .int .i64 y, .int .i64 nn] 31)).heap[w.heap.size]? = some (.cells #[.int .i64 Kd, .int .i64 f, .int .i64 o, .int .i64 y, .int .i64 nn] 31 (0, 0))) := heap_alloc_new w _
  have HK1 : Hid (Keep (fun _ => False) w (w.alloc (.cells #[.int .i64 Kd, .int .i64 f, .int .i64 o, .int .i64 y, .int .i64 nn] 31))) := (Keep.refl _ _).alloc _
  obtain ⟨b3, hb3⟩ : ∃ b3, w.heap.size = b3 := ⟨_, rfl⟩
  rw [hb3] at HBX ⊢
  generalize w.alloc (.cells #[.int .i64 Kd, .int .i64 f, .int .i64 o, .int .i64 y, .int .i64 nn] 31) = w1 at HBX HK1 ⊢
  clear hb3
  have HS1 := Lib.hid (HS.out.keep0 HK1.out)
  have HC1 := Lib.hid (cc_of HS1.out HBX.out)
  go_region_held3 (fun w' => CC q A.k A.X A.x b3 f o y w')
    (first | exact HC5.out | exact HC1.out)
    (first | (go_at_call 32; refine (duo_chg f o HF.out (HS1.out.duo.keep0 (by (repeat (first | exact Keep.refl _ _ | exact Keep.refl _ _ | refine Keep.drew ?_ | refine Keep.drewN ?_ _ | refine Keep.alloc ?_ _ | refine Keep.setNew ?_ (by omega) _)); done))).mono ?_; rintro e w5 ⟨er, F', rfl, hd5, hk5, hx5, hp5⟩; have HX5 := Lib.hid hx5; have HD5 := Lib.hid hd5; have HP5 := Lib.hid hp5; have HK5 : Hid (KU A w1 w5) := ku_on (by (repeat (first | exact Keep.refl _ _ | exact Keep.refl _ _ | refine Keep.drew ?_ | refine Keep.drewN ?_ _ | refine Keep.alloc ?_ _ | refine Keep.setNew ?_ (by omega) _)); done) hk5; have HC5 := Lib.hid (cc_ku HS1.out HBX.out HK5.out); have HS5 := Lib.hid (HS1.out.on HK5.out hd5); have HB5 := Lib.hid (ku_block HS1.out.duo HK5.out HBX.out (by decide)); clear hx5 hk5 hp5 hd5))
  all_goals
    have HU5 : Hid (UpO q A.B w w5) := UpO.trans (UpO.of HK1.out) (UpO.ku HS1.out.duo HK5.out)
    rcases HP5.out with ⟨he, rfl⟩ | ⟨rfl, a', o', rfl, rfl, ho8, hao, hb, rfl⟩
    · have he' : (er == 0) = false := by simp [he]
      clear he HP5
      go_wp2
      go_region_held3 (fun w' => CC q A.k A.X A.x b3 f o y w')
        (first | exact HC6.out | exact HC5.out)
        (first | (go_at_call 22; refine (HX5.out _ (HD5.out.keep0 (by (repeat (first | exact Keep.refl _ _ | exact Keep.refl _ _ | refine Keep.drew ?_ | refine Keep.drewN ?_ _ | refine Keep.alloc ?_ _ | refine Keep.setNew ?_ (by omega) _)); done))).mono ?_; rintro e w6 ⟨rfl, hd6, hk6⟩; have HK6 : Hid (KU A w1 w6) := HK5.out.trans (ku_on (by (repeat (first | exact Keep.refl _ _ | exact Keep.refl _ _ | refine Keep.drew ?_ | refine Keep.drewN ?_ _ | refine Keep.alloc ?_ _ | refine Keep.setNew ?_ (by omega) _)); done) hk6); have HS6 := Lib.hid (HS1.out.on HK6.out hd6); have HC6 := Lib.hid (cc_ku HS1.out HBX.out HK6.out); clear hd6 hk6))
      all_goals
        go_wp2
        go_ret
        exact ⟨rfl, _, _, _, ⟨_, HS6.out, HT.out, HM.out⟩, by omega, UpO.trans (UpO.of HK1.out) (UpO.ku HS1.out.duo HK6.out)⟩
    · have HBK := Lib.hid (And.intro ho8 (And.intro hao hb))
      have HFN : Hid (∀ i, F i = true → i < A.n) := HS.out.duo.ko.bf.fin
      clear HP5 ho8 hao hb
      obtain ⟨z0, z1, z2⟩ := cells3 HS5.out.hq
      have fz : w5.frozen? ⟨q, 2, none⟩ = false := frozen_block HS5.out.hq
      obtain ⟨-, d1, d2, -, -⟩ := cells5 HB5.out
      go_wp2
      refine wp_region_noPanic ?_
      refine wp_region_L (fun w' => w'.cell? ⟨q, 2, none⟩ = some v ∧ w'.frozen? ⟨q, 2, none⟩ = false ∧ w'.cell? ⟨b3, 1, none⟩ = some (.int .i64 (a' : Int)) ∧ w'.cell? ⟨b3, 2, none⟩ = some (.int .i64 (o' : Int))) 14 (by kernel_rfl) (by (refine keepS4 (S := fun z => v.ownBlock = some z) ?_ (own_ne HS5.out HS5.out.hq (by decide)) (own_ne HS5.out HB5.out (by decide)) z2 fz d1 d2; (repeat (first | exact HK176.out | exact Keep.refl _ _ | refine Keep.drew ?_ | refine Keep.drewN ?_ _ | refine Keep.alloc ?_ _ | refine Keep.setNew ?_ (by omega) _)); done)) (fun hS0 => ?_)
      refine wpAnyL_take 0 (oi := { dst := some 165, op := Go.Op.move (Go.Operand.tmp 0), type := 25, pos := "law.go:79", after := #[], guard := none }) (v := ?_) rfl (by kernel_rfl) (by kernel_rfl) (by kernel_rfl) (by kernel_rfl) (fun _ _ _ h => h) (Or.inl ⟨by rfl, ?_⟩) (by assumption) ?_
      rotate_left
      · (intro w hSw; (try dsimp only at hSw); go_split_ands; go_simp; try (with_reducible rfl))
      simp only [Act.put, List.setIfInBounds_toArray, List.set_cons_zero, List.set_cons_succ]
      refine wpAnyL_take 1 (oi := { dst := some 166, op := Go.Op.move (Go.Operand.tmp 0), type := 25, pos := "law.go:79", after := #[], guard := none }) (v := ?_) rfl (by kernel_rfl) (by kernel_rfl) (by kernel_rfl) (by kernel_rfl) (fun _ _ _ h => h) (Or.inl ⟨by rfl, ?_⟩) (by assumption) ?_
      rotate_left
      · (intro w hSw; (try dsimp only at hSw); go_split_ands; go_simp; try (with_reducible rfl))
      simp only [Act.put, List.setIfInBounds_toArray, List.set_cons_zero, List.set_cons_succ]
      refine wpAnyL_take 2 (oi := { dst := some 167, op := Go.Op.nilCheck (Go.Operand.tmp 166), type := 0, pos := "law.go:79", after := #[{ on := 1, ground := Go.Ground.data }], guard := none }) (v := ?_) rfl (by kernel_rfl) (by kernel_rfl) (by kernel_rfl) (by kernel_rfl) (fun _ _ _ h => h) (Or.inl ⟨by rfl, ?_⟩) (by assumption) ?_
      rotate_left
      · (intro w hSw; (try dsimp only at hSw); go_split_ands; go_simp; try (with_reducible rfl))
      simp only [Act.put, List.setIfInBounds_toArray, List.set_cons_zero, List.set_cons_succ]
      refine wpAnyL_take 3 (oi := { dst := some 168, op := Go.Op.fieldAddr 40 (Go.Operand.tmp 167) 2, type := 0, pos := "law.go:79", after := #[{ on := 2, ground := Go.Ground.data }], guard := none }) (v := ?_) rfl (by kernel_rfl) (by kernel_rfl) (by kernel_rfl) (by kernel_rfl) (fun _ _ _ h => h) (Or.inl ⟨by rfl, ?_⟩) (by assumption) ?_
      rotate_left
      · (intro w hSw; (try dsimp only at hSw); go_split_ands; go_simp; try (with_reducible rfl))
      simp only [Act.put, List.setIfInBounds_toArray, List.set_cons_zero, List.set_cons_succ]
      refine wpAnyL_take 4 (oi := { dst := some 169, op := Go.Op.load 38 (Go.Operand.tmp 168), type := 38, pos := "law.go:79", after := #[{ on := 3, ground := Go.Ground.data }], guard := none }) (v := ?_) rfl (by kernel_rfl) (by kernel_rfl) (by kernel_rfl) (by kernel_rfl) (fun _ _ _ h => h) (Or.inl ⟨by rfl, ?_⟩) (by assumption) ?_
      rotate_left
      · (intro w hSw; (try dsimp only at hSw); go_split_ands; go_simp; try (with_reducible rfl))
      simp only [Act.put, List.setIfInBounds_toArray, List.set_cons_zero, List.set_cons_succ]
      refine wpAnyL_take 5 (oi := { dst := some 170, op := Go.Op.fieldAddr 31 (Go.Operand.tmp 3) 1, type := 0, pos := "law.go:79", after := #[], guard := none }) (v := ?_) rfl (by kernel_rfl) (by kernel_rfl) (by kernel_rfl) (by kernel_rfl) (fun _ _ _ h => h) (Or.inl ⟨by rfl, ?_⟩) (by assumption) ?_
      rotate_left
      · (intro w hSw; (try dsimp only at hSw); go_split_ands; go_simp; try (with_reducible rfl))
      simp only [Act.put, List.setIfInBounds_toArray, List.set_cons_zero, List.set_cons_succ]
      refine wpAnyL_take 6 (oi := { dst := some 171, op := Go.Op.load 3 (Go.Operand.tmp 170), type := 3, pos := "law.go:79", after := #[{ on := 5, ground := Go.Ground.data }], guard := none }) (v := ?_) rfl (by kernel_rfl) (by kernel_rfl) (by kernel_rfl) (by kernel_rfl) (fun _ _ _ h => h) (Or.inl ⟨by rfl, ?_⟩) (by assumption) ?_
      rotate_left
      · (intro w hSw; (try dsimp only at hSw); go_split_ands; go_simp; try (with_reducible rfl))
      simp only [Act.put, List.setIfInBounds_toArray, List.set_cons_zero, List.set_cons_succ]
      refine wpAnyL_take 7 (oi := { dst := some 172, op := Go.Op.fieldAddr 31 (Go.Operand.tmp 3) 2, type := 0, pos := "law.go:79", after := #[], guard := none }) (v := ?_) rfl (by kernel_rfl) (by kernel_rfl) (by kernel_rfl) (by kernel_rfl) (fun _ _ _ h => h) (Or.inl ⟨by rfl, ?_⟩) (by assumption) ?_
      rotate_left
      · (intro w hSw; (try dsimp only at hSw); go_split_ands; go_simp; try (with_reducible rfl))
      simp only [Act.put, List.setIfInBounds_toArray, List.set_cons_zero, List.set_cons_succ]
      refine wpAnyL_take 8 (oi := { dst := some 173, op := Go.Op.load 3 (Go.Operand.tmp 172), type := 3, pos := "law.go:79", after := #[{ on := 7, ground := Go.Ground.data }], guard := none }) (v := ?_) rfl (by kernel_rfl) (by kernel_rfl) (by kernel_rfl) (by kernel_rfl) (fun _ _ _ h => h) (Or.inl ⟨by rfl, ?_⟩) (by assumption) ?_
      rotate_left
      · (intro w hSw; (try dsimp only at hSw); go_split_ands; go_simp; try (with_reducible rfl))
      simp only [Act.put, List.setIfInBounds_toArray, List.set_cons_zero, List.set_cons_succ]
      refine wpAnyL_take 9 (oi := { dst := some 174, op := Go.Op.build 49 #[(0, Go.Operand.tmp 171), (1, Go.Operand.tmp 173)], type := 49, pos := "law.go:79", after := #[{ on := 6, ground := Go.Ground.data }, { on := 8, ground := Go.Ground.data }], guard := none }) (v := ?_) rfl (by kernel_rfl) (by kernel_rfl) (by kernel_rfl) (by kernel_rfl) (fun _ _ _ h => h) (Or.inl ⟨by rfl, ?_⟩) (by assumption) ?_
      rotate_left
      · (intro w hSw; (try dsimp only at hSw); go_split_ands; go_simp; try (with_reducible rfl))
      simp only [Act.put, List.setIfInBounds_toArray, List.set_cons_zero, List.set_cons_succ]
      refine wpAnyL_ready (rs := [10]) (by kernel_rfl) (by simp) ?_
      refine AllReadyL.cons (o := { dst := some 175, op := Go.Op.buildSlice 38 1 #[(0, Go.Operand.tmp 174)], type := 38, pos := "law.go:79", after := #[{ on := 9, ground := Go.Ground.data }], guard := none }) rfl (fun K hK => ?_) ?_
      · go_simp
        refine hK.out _ _ (.inr (by (refine keepS4 (S := fun z => v.ownBlock = some z) ?_ (own_ne HS5.out HS5.out.hq (by decide)) (own_ne HS5.out HB5.out (by decide)) z2 fz d1 d2; (repeat (first | exact HK176.out | exact Keep.refl _ _ | refine Keep.drew ?_ | refine Keep.drewN ?_ _ | refine Keep.alloc ?_ _ | refine Keep.setNew ?_ (by omega) _)); done))) (fun hS10 => ?_)
        replace hS10 := hS10.resolve_left (by decide)
        try simp only [Act.put, List.setIfInBounds_toArray, List.set_cons_zero, List.set_cons_succ]
        refine wpAnyL_ready (rs := [11]) (by kernel_rfl) (by simp) ?_
        refine AllReadyL.cons (o := { dst := some 176, op := Go.Op.call { callee := Go.Callee.builtin Go.Builtin.append, args := #[Go.Operand.tmp 169, Go.Operand.tmp 175], argTypes := #[38, 38] }, type := 38, pos := "law.go:79", after := #[{ on := 4, ground := Go.Ground.data }, { on := 10, ground := Go.Ground.data }], guard := none }) rfl (fun K hK => ?_) ?_
        · refine step_appF et43 (by rfl) (.tmp 169) (.tmp 175) (by rfl) A.B v T.length (bkE.cs T) (by rfl) (HS5.out.own.keep (S := fun _ => False) (by (repeat (first | exact Keep.refl _ _ | exact Keep.refl _ _ | refine Keep.drew ?_ | refine Keep.drewN ?_ _ | refine Keep.alloc ?_ _ | refine Keep.setNew ?_ (by omega) _)); done) (fun _ _ => id)) ⟨w5.heap.size, 0, none⟩ 1 1 [.int .i64 (a' : Int), .int .i64 (o' : Int)] (by rfl) rfl (new_cells (heap_alloc_new w5.drew _)) (by simp [Value.oneCell']) (by unfold maxLen; omega) (by omega) (by have := HS5.out.base; simp; omega) ?_
          intro v176 w176 ho176 hg176 hv176
          obtain ⟨a176, l176, c176, rfl⟩ := own_slice ho176
          have HV176 : Hid (∀ z, (Value.slice a176 l176 c176).ownBlock = some z → v.ownBlock = some z ∨ w5.heap.size ≤ z) := fun z hz => (hv176 z hz).imp id (fun h => by simp at h; omega)
          have HK176 : Hid (Keep (fun z => v.ownBlock = some z) w5 w176) := Keep.grown (by (repeat (first | exact Keep.refl _ _ | exact Keep.refl _ _ | refine Keep.drew ?_ | refine Keep.drewN ?_ _ | refine Keep.alloc ?_ _ | refine Keep.setNew ?_ (by omega) _)); done) hg176 (fun x h1 h2 => h1)
          have HO176 : Hid (OwnL bkE w176 A.B 49 (.slice a176 l176 c176) (T ++ [⟨a', o'⟩])) := own_conv ho176 (by simp) (by rw [bkE.cs_append, bkE.cs_one]; rfl) (Nat.le_refl _)
          clear ho176 hg176 hv176
          refine hK.out _ _ (.inr (by (refine keepS4 (S := fun z => v.ownBlock = some z) ?_ (own_ne HS5.out HS5.out.hq (by decide)) (own_ne HS5.out HB5.out (by decide)) z2 fz d1 d2; (repeat (first | exact HK176.out | exact Keep.refl _ _ | refine Keep.drew ?_ | refine Keep.drewN ?_ _ | refine Keep.alloc ?_ _ | refine Keep.setNew ?_ (by omega) _)); done))) (fun hS11 => ?_)
          replace hS11 := hS11.resolve_left (by decide)
          try simp only [Act.put, List.setIfInBounds_toArray, List.set_cons_zero, List.set_cons_succ]
          refine wpAnyL_ready (rs := [12]) (by kernel_rfl) (by simp) ?_
          refine AllReadyL.cons (o := { dst := some 177, op := Go.Op.nilCheck (Go.Operand.tmp 165), type := 0, pos := "law.go:79", after := #[{ on := 0, ground := Go.Ground.data }, { on := 0, ground := Go.Ground.phase }, { on := 1, ground := Go.Ground.phase }, { on := 2, ground := Go.Ground.phase }, { on := 3, ground := Go.Ground.phase }, { on := 4, ground := Go.Ground.phase }, { on := 5, ground := Go.Ground.phase }, { on := 6, ground := Go.Ground.phase }, { on := 7, ground := Go.Ground.phase }, { on := 8, ground := Go.Ground.phase }, { on := 9, ground := Go.Ground.phase }, { on := 10, ground := Go.Ground.phase }, { on := 11, ground := Go.Ground.phase }], guard := none }) rfl (fun K hK => ?_) ?_
          · go_simp
            refine hK.out _ _ (.inr (by (refine keepS4 (S := fun z => v.ownBlock = some z) ?_ (own_ne HS5.out HS5.out.hq (by decide)) (own_ne HS5.out HB5.out (by decide)) z2 fz d1 d2; (repeat (first | exact HK176.out | exact Keep.refl _ _ | refine Keep.drew ?_ | refine Keep.drewN ?_ _ | refine Keep.alloc ?_ _ | refine Keep.setNew ?_ (by omega) _)); done))) (fun hS12 => ?_)
            replace hS12 := hS12.resolve_left (by decide)
            try simp only [Act.put, List.setIfInBounds_toArray, List.set_cons_zero, List.set_cons_succ]
            refine wpAnyL_take 13 (oi := { dst := some 178, op := Go.Op.fieldAddr 40 (Go.Operand.tmp 177) 2, type := 0, pos := "law.go:79", after := #[{ on := 12, ground := Go.Ground.data }, { on := 0, ground := Go.Ground.phase }, { on := 1, ground := Go.Ground.phase }, { on := 2, ground := Go.Ground.phase }, { on := 3, ground := Go.Ground.phase }, { on := 4, ground := Go.Ground.phase }, { on := 5, ground := Go.Ground.phase }, { on := 6, ground := Go.Ground.phase }, { on := 7, ground := Go.Ground.phase }, { on := 8, ground := Go.Ground.phase }, { on := 9, ground := Go.Ground.phase }, { on := 10, ground := Go.Ground.phase }, { on := 11, ground := Go.Ground.phase }], guard := none }) (v := ?_) rfl (by kernel_rfl) (by kernel_rfl) (by kernel_rfl) (by kernel_rfl) (fun _ _ _ h => h) (Or.inl ⟨by rfl, ?_⟩) (by assumption) ?_
            rotate_left
            · (intro w hSw; (try dsimp only at hSw); go_split_ands; go_simp; try (with_reducible rfl))
            simp only [Act.put, List.setIfInBounds_toArray, List.set_cons_zero, List.set_cons_succ]
            refine wpAnyL_ready (rs := [14]) (by kernel_rfl) (by simp) ?_
            refine AllReadyL.cons (o := { dst := none, op := Go.Op.store 38 (Go.Operand.tmp 178) (Go.Operand.tmp 176), type := 0, pos := "law.go:79", after := #[{ on := 13, ground := Go.Ground.data }, { on := 11, ground := Go.Ground.data }, { on := 11, ground := Go.Ground.chain }, { on := 0, ground := Go.Ground.phase }, { on := 1, ground := Go.Ground.phase }, { on := 2, ground := Go.Ground.phase }, { on := 3, ground := Go.Ground.phase }, { on := 4, ground := Go.Ground.phase }, { on := 5, ground := Go.Ground.phase }, { on := 6, ground := Go.Ground.phase }, { on := 7, ground := Go.Ground.phase }, { on := 8, ground := Go.Ground.phase }, { on := 9, ground := Go.Ground.phase }, { on := 10, ground := Go.Ground.phase }, { on := 11, ground := Go.Ground.phase }], guard := none }) rfl (fun K hK => ?_) ?_
            · go_simp
              refine hK.out _ _ (.inl rfl) (fun _ => ?_)
              try simp only [Act.put, List.setIfInBounds_toArray, List.set_cons_zero, List.set_cons_succ]
              refine wpAnyL_done (by kernel_rfl) ?_ _
              refine NoPanic.normal ?_
              have hput := HS5.out.putO HK176.out HO176.out HV176.out
              have HSP := Lib.hid hput.1
              have HUP := Lib.hid hput.2
              have HBP : Hid ((w176.setCell ⟨q, 2, none⟩ (.slice a176 l176 c176)).heap[b3]? = some (.cells #[.int .i64 Kd, .int .i64 (a' : Int), .int .i64 (o' : Int), .int .i64 y, .int .i64 nn] 31 (0, 0))) := by
                unfold Hid
                rw [heap_setCell_ne (typ_ne HB5.out HS5.out.hq (by decide))]
                exact (HK176.out.block b3 (block_lt HB5.out) (own_ne HS5.out HB5.out (by decide))).trans HB5.out
              clear hput z0 z1 z2 fz d1 d2
              generalize w176.setCell ⟨q, 2, none⟩ (.slice a176 l176 c176) = wp at HSP HUP HBP ⊢
              have HCP := Lib.hid (cc_of HSP.out HBP.out)
              go_wp2
              go_region_held3 (fun w' => CC q A.k A.X A.x b3 (a' : Int) (o' : Int) y w')
                (first | exact HC6.out | exact HCP.out)
                (first | (go_at_call 22; refine (HX5.out _ (HSP.out.duo.keep0 (by (repeat (first | exact Keep.refl _ _ | exact Keep.refl _ _ | refine Keep.drew ?_ | refine Keep.drewN ?_ _ | refine Keep.alloc ?_ _ | refine Keep.setNew ?_ (by omega) _)); done))).mono ?_; rintro e w6 ⟨rfl, hd6, hk6⟩; have HK6 : Hid (KU A wp w6) := ku_on (by (repeat (first | exact Keep.refl _ _ | exact Keep.refl _ _ | refine Keep.drew ?_ | refine Keep.drewN ?_ _ | refine Keep.alloc ?_ _ | refine Keep.setNew ?_ (by omega) _)); done) hk6; have HS6 := Lib.hid (HSP.out.on HK6.out hd6); have HC6 := Lib.hid (cc_ku HSP.out HBP.out HK6.out); clear hd6 hk6))
              all_goals
                go_wp2
                go_ret
                exact ⟨rfl, _, _, _, ⟨_, HS6.out, HT.out.push HBK.out.1 HBK.out.2.1 (blk_end HFN.out HBK.out.2.2) HBK.out.2.2, HM.out⟩, by simp, (HU5.out.trans HUP.out).trans (UpO.ku HSP.out.duo HK6.out)⟩
            exact AllReadyL.nil
          exact AllReadyL.nil
        exact AllReadyL.nil
      exact AllReadyL.nil

/-- Any call. -/
theorem do_any {w : World} {A : Ad} {q : Nat} {F : Nat → Bool} {M : Nat → Int} {T : List Bk} (K f o y nn : Int) (hf : i64B f) (h : Wd w A q F M T) (hl : T.length ≤ 5000) :
    Calls Try.prog 10 #[.pointer (some ⟨q, 0, none⟩), .agg #[.int .i64 K, .int .i64 f, .int .i64 o, .int .i64 y, .int .i64 nn]] w (DoC w A q T) := by
  by_cases h1 : K = 0 ∨ K = 1 ∨ K = 2
  · exact do_take K f o y nn h1 h hl
  by_cases h3 : K = 3
  · subst h3; exact do_set f o y nn h
  by_cases h4 : K = 4
  · subst h4
    refine (do_give f o y nn h hl).mono ?_
    rintro e w' ⟨rfl, F', T', h5, h6, ⟨_, rfl⟩ | ⟨i, _, hi, rfl⟩⟩
    · exact ⟨rfl, _, _, _, h5, by omega, h6⟩
    · exact ⟨rfl, _, _, _, h5, by have := rmT_len hi; omega, h6⟩
  · exact do_chg K f o y nn hf (by omega) h hl

end Go.Proofs.Ytnjcchgbkemekaa
