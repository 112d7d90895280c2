/- Buddy: do: Take of both, TakeAt of both. -/
import Derived.Test.YtcbkfilhgeeebaaAN
set_option linter.unusedVariables false
set_option linter.unusedSimpArgs false
namespace Go.Proofs.Ytcbkfilhgeeebaa
open Go.RowKit Go.Own

abbrev DCf (q p x b : Nat) (f o : Int) (w : World) : Prop := w.cell? ⟨q, 0, none⟩ = some (.pointer (some ⟨p, 0, none⟩)) ∧ w.cell? ⟨q, 1, none⟩ = some (.pointer (some ⟨x, 0, none⟩)) ∧ w.cell? ⟨b, 1, none⟩ = some (.int .i64 f) ∧ w.cell? ⟨b, 2, none⟩ = some (.int .i64 o)
theorem cells5 {w : World} {b e : Nat} {x0 x1 x2 x3 x4 : Value} {z : Nat × Nat} (hb : w.heap[b]? = some (.cells #[x0, x1, x2, x3, x4] e z)) :
    w.cell? ⟨b, 0, none⟩ = some x0 ∧ w.cell? ⟨b, 1, none⟩ = some x1 ∧ w.cell? ⟨b, 2, none⟩ = some x2 ∧ w.cell? ⟨b, 3, none⟩ = some x3 ∧ w.cell? ⟨b, 4, none⟩ = some x4 := by simp [cell_block hb]
theorem dcf_of {w : World} {q p x b e e' : Nat} {f o : Int} {v y0 y3 y4 : Value} (h : w.heap[q]? = some (.cells #[.pointer (some ⟨p, 0, none⟩), .pointer (some ⟨x, 0, none⟩), v] e (0, 0))) (h' : w.heap[b]? = some (.cells #[y0, .int .i64 f, .int .i64 o, y3, y4] e' (0, 0))) : DCf q p x b f o w :=
  ⟨(cells3 h).1, (cells3 h).2.1, (cells5 h').2.1, (cells5 h').2.2.1⟩
/-- What do does. -/
def DoC (w : World) (B q p x g n : Nat) (T : List Bk) (e : Ending) (w' : World) : Prop :=
  e = .returned (.bool true) ∧ ∃ F' T', Wd w' B q p x g n F' T' ∧ T'.length ≤ T.length + 1 ∧ UpO q B w w'

theorem sw3 {K : Int} (h : K = 0 ∨ K = 1 ∨ K = 2) : (K == 0) = true ∨ ((K == 0) = false ∧ (K == 1) = true) ∨ ((K == 0) = false ∧ (K == 1) = false ∧ (K == 2) = true) := by
  rcases h with rfl | rfl | rfl
  · exact .inl rfl
  · exact .inr (.inl ⟨rfl, rfl⟩)
  · exact .inr (.inr ⟨rfl, rfl, rfl⟩)

theorem own_ne {w : World} {B q p x g n b e : Nat} {F : Nat → Bool} {v : Value} {T : List Bk} {c : Array Value} (h : St w B q p x g n F v T) (hb : w.heap[b]? = some (.cells c e (0, 0))) (he : e ≠ 55) : ¬ v.ownBlock = some b := fun e => by
  obtain ⟨c, hc⟩ := own_typ h.2.2.1 e
  exact typ_ne hb hc he rfl
theorem blk_end {F : Nat → Bool} {n a k : Nat} (hF : ∀ i, F i = true → i < n) (hb : blk F k a) : a + 2 ^ k ≤ n := by
  have := p2 k
  have := hF (a + 2 ^ k - 1) (hb _ (by omega) (by omega))
  omega
set_option maxRecDepth 100000 in
set_option maxHeartbeats 4000000 in
theorem do_take {w : World} {B q p x g n : Nat} {F : Nat → Bool} {T : List Bk} (K f o nn : Int) (hh : Bool) (hK : K = 0 ∨ K = 1 ∨ K = 2) (h : Wd w B q p x g n F T) (hl : T.length ≤ 5000) :
    Calls Try.prog 17 #[.pointer (some ⟨q, 0, none⟩), .agg #[.int .i64 K, .int .i64 f, .int .i64 o, .int .i64 nn, .bool hh]] w (DoC w B q p x g n T) := by
  obtain ⟨v, hS, hT⟩ := h
  have HT := Lib.hid hT
  have HS := Lib.hid hS
  clear hS hT
  rcases sw3 hK with q0 | ⟨q0, q1⟩ | ⟨q0, q1, q2⟩
  all_goals
    clear hK
    go_enter Try.func17, Try.ntmps17
    go_wp2
    have HBX : Hid ((w.alloc (.cells #[.int .i64 K, .int .i64 f, .int .i64 o, .int .i64 nn, .bool hh] 42)).heap[w.heap.size]? = some (.cells #[.int .i64 K, .int .i64 f, .int .i64 o, .int .i64 nn, .bool hh] 42 (0, 0))) := heap_alloc_new w _
    have HFN : Hid (∀ i, F i = true → i < n) := HS.out.1.1.fin
    have HK1 : Hid (Keep (fun _ => False) w (w.alloc (.cells #[.int .i64 K, .int .i64 f, .int .i64 o, .int .i64 nn, .bool hh] 42))) := (Keep.refl _ _).alloc _
    obtain ⟨b3, hb3⟩ : ∃ b3, w.heap.size = b3 := ⟨_, rfl⟩
    rw [hb3] at HBX ⊢
    generalize w.alloc (.cells #[.int .i64 K, .int .i64 f, .int .i64 o, .int .i64 nn, .bool hh] 42) = w1 at HBX HK1 ⊢
    clear hb3
    have HS1 := Lib.hid (HS.out.keep0 HK1.out)
    have HC1 := Lib.hid (dcf_of HS1.out.2.1 HBX.out)
    go_region_held3 (fun w' => DCf q p x b3 f o w')
      (first | exact HC5.out | exact HC1.out)
      (first | (go_at_call 13; refine (pair_take o (HS1.out.1.keep0 (by (repeat (first | exact Keep.refl _ _ | exact Keep.refl _ _ | refine Keep.drew ?_ | refine Keep.drewN ?_ _ | refine Keep.alloc ?_ _ | refine Keep.setNew ?_ (by omega) _)); done))).mono ?_; rintro e w5 ⟨ra, er, F', rfl, hx5, hp5, hk5⟩; have HX5 := Lib.hid hx5; have HP5 := Lib.hid hp5; have HK5 : Hid (KT B p g w1 w5) := kt_on (by (repeat (first | exact Keep.refl _ _ | exact Keep.refl _ _ | refine Keep.drew ?_ | refine Keep.drewN ?_ _ | refine Keep.alloc ?_ _ | refine Keep.setNew ?_ (by omega) _)); done) hk5; have HC5 := Lib.hid (dcf_of (kt_block HS1.out.1 HK5.out HS1.out.2.1 (by decide)) (kt_block HS1.out.1 HK5.out HBX.out (by decide))); clear hx5 hk5 hp5))
    go_wp2
    go_region_held3 (fun w' => DCf q p x b3 f o w')
      (first | exact HC6.out | exact HC5.out)
      (first | (go_at_call 33; refine (HX5.out _ (by (repeat (first | exact Keep.refl _ _ | exact Keep.refl _ _ | refine Keep.drew ?_ | refine Keep.drewN ?_ _ | refine Keep.alloc ?_ _ | refine Keep.setNew ?_ (by omega) _)); done)).mono ?_; rintro e w6 ⟨rfl, ht6, hk6⟩; have HK6 : Hid (KT B p g w1 w6) := kt_on (by (repeat (first | exact Keep.refl _ _ | exact Keep.refl _ _ | refine Keep.drew ?_ | refine Keep.drewN ?_ _ | refine Keep.alloc ?_ _ | refine Keep.setNew ?_ (by omega) _)); done) hk6; have HS6 := Lib.hid (HS1.out.on HK6.out ht6); have HB6 := Lib.hid (kt_block HS1.out.1 HK6.out HBX.out (by decide)); have HC6 := Lib.hid (dcf_of HS6.out.2.1 HB6.out); clear ht6 hk6))
    have HU6 : Hid (UpO q B w w6) := UpO.trans (UpO.of HK1.out) (UpO.kt HS1.out.1 HK6.out)
    clear HX5 HK5 HC5 HC1
    rcases HP5.out with ⟨he, rfl⟩ | ⟨rfl, a', o', rfl, rfl, ho8, hao, hb, rfl⟩
    · have he' : (er == 0) = false := by simp [he]
      clear he HP5
      go_wp2
      go_ret
      exact ⟨rfl, _, _, ⟨_, HS6.out, HT.out⟩, by omega, HU6.out⟩
    · have HBK := Lib.hid (And.intro ho8 (And.intro hao hb))
      clear HP5 ho8 hao hb
      have hn1 := HS6.out.1.1.n1024
      obtain ⟨z0, z1, z2⟩ := cells3 HS6.out.2.1
      have fz : w6.frozen? ⟨q, 2, none⟩ = false := frozen_block HS6.out.2.1
      obtain ⟨-, -, d2, -, -⟩ := cells5 HB6.out
      go_wp2
      refine wp_region_noPanic ?_
      refine wp_region_L (fun w' => w'.cell? ⟨q, 2, none⟩ = some v ∧ w'.frozen? ⟨q, 2, none⟩ = false ∧ w'.cell? ⟨b3, 2, none⟩ = some (.int .i64 (o' : Int))) 13 (by kernel_rfl) (by (refine keepS3 (S := fun z => v.ownBlock = some z) ?_ (own_ne HS6.out HS6.out.2.1 (by decide)) (own_ne HS6.out HB6.out (by decide)) z2 fz d2; (repeat (first | exact HK49.out | exact Keep.refl _ _ | refine Keep.drew ?_ | refine Keep.drewN ?_ _ | refine Keep.alloc ?_ _ | refine Keep.setNew ?_ (by omega) _)); done)) (fun hS0 => ?_)
      refine wpAnyL_take 0 (oi := { dst := some 39, op := Go.Op.move (Go.Operand.tmp 0), type := 37, pos := "law.go:54", after := #[], guard := none }) (v := ?_) rfl (by kernel_rfl) (by kernel_rfl) (by kernel_rfl) (by kernel_rfl) (fun _ _ _ h => h) (Or.inl ⟨by rfl, ?_⟩) (by assumption) ?_
      rotate_left
      · (intro w hSw; (try dsimp only at hSw); go_split_ands; go_simp; try (with_reducible rfl))
      simp only [Act.put, List.setIfInBounds_toArray, List.set_cons_zero, List.set_cons_succ]
      refine wpAnyL_take 1 (oi := { dst := some 40, op := Go.Op.move (Go.Operand.tmp 0), type := 37, pos := "law.go:54", after := #[], guard := none }) (v := ?_) rfl (by kernel_rfl) (by kernel_rfl) (by kernel_rfl) (by kernel_rfl) (fun _ _ _ h => h) (Or.inl ⟨by rfl, ?_⟩) (by assumption) ?_
      rotate_left
      · (intro w hSw; (try dsimp only at hSw); go_split_ands; go_simp; try (with_reducible rfl))
      simp only [Act.put, List.setIfInBounds_toArray, List.set_cons_zero, List.set_cons_succ]
      refine wpAnyL_take 2 (oi := { dst := some 41, op := Go.Op.nilCheck (Go.Operand.tmp 40), type := 0, pos := "law.go:54", after := #[{ on := 1, ground := Go.Ground.data }], guard := none }) (v := ?_) rfl (by kernel_rfl) (by kernel_rfl) (by kernel_rfl) (by kernel_rfl) (fun _ _ _ h => h) (Or.inl ⟨by rfl, ?_⟩) (by assumption) ?_
      rotate_left
      · (intro w hSw; (try dsimp only at hSw); go_split_ands; go_simp; try (with_reducible rfl))
      simp only [Act.put, List.setIfInBounds_toArray, List.set_cons_zero, List.set_cons_succ]
      refine wpAnyL_take 3 (oi := { dst := some 42, op := Go.Op.fieldAddr 46 (Go.Operand.tmp 41) 2, type := 0, pos := "law.go:54", after := #[{ on := 2, ground := Go.Ground.data }], guard := none }) (v := ?_) rfl (by kernel_rfl) (by kernel_rfl) (by kernel_rfl) (by kernel_rfl) (fun _ _ _ h => h) (Or.inl ⟨by rfl, ?_⟩) (by assumption) ?_
      rotate_left
      · (intro w hSw; (try dsimp only at hSw); go_split_ands; go_simp; try (with_reducible rfl))
      simp only [Act.put, List.setIfInBounds_toArray, List.set_cons_zero, List.set_cons_succ]
      refine wpAnyL_take 4 (oi := { dst := some 43, op := Go.Op.load 43 (Go.Operand.tmp 42), type := 43, pos := "law.go:54", after := #[{ on := 3, ground := Go.Ground.data }], guard := none }) (v := ?_) rfl (by kernel_rfl) (by kernel_rfl) (by kernel_rfl) (by kernel_rfl) (fun _ _ _ h => h) (Or.inl ⟨by rfl, ?_⟩) (by assumption) ?_
      rotate_left
      · (intro w hSw; (try dsimp only at hSw); go_split_ands; go_simp; try (with_reducible rfl))
      simp only [Act.put, List.setIfInBounds_toArray, List.set_cons_zero, List.set_cons_succ]
      refine wpAnyL_take 5 (oi := { dst := some 44, op := Go.Op.move (Go.Operand.tmp 7), type := 3, pos := "law.go:54", after := #[], guard := none }) (v := ?_) rfl (by kernel_rfl) (by kernel_rfl) (by kernel_rfl) (by kernel_rfl) (fun _ _ _ h => h) (Or.inl ⟨by rfl, ?_⟩) (by assumption) ?_
      rotate_left
      · (intro w hSw; (try dsimp only at hSw); go_split_ands; go_simp; try (with_reducible rfl))
      simp only [Act.put, List.setIfInBounds_toArray, List.set_cons_zero, List.set_cons_succ]
      refine wpAnyL_take 6 (oi := { dst := some 45, op := Go.Op.fieldAddr 42 (Go.Operand.tmp 3) 2, type := 0, pos := "law.go:54", after := #[], guard := none }) (v := ?_) rfl (by kernel_rfl) (by kernel_rfl) (by kernel_rfl) (by kernel_rfl) (fun _ _ _ h => h) (Or.inl ⟨by rfl, ?_⟩) (by assumption) ?_
      rotate_left
      · (intro w hSw; (try dsimp only at hSw); go_split_ands; go_simp; try (with_reducible rfl))
      simp only [Act.put, List.setIfInBounds_toArray, List.set_cons_zero, List.set_cons_succ]
      refine wpAnyL_take 7 (oi := { dst := some 46, op := Go.Op.load 3 (Go.Operand.tmp 45), type := 3, pos := "law.go:54", after := #[{ on := 6, ground := Go.Ground.data }], guard := none }) (v := ?_) rfl (by kernel_rfl) (by kernel_rfl) (by kernel_rfl) (by kernel_rfl) (fun _ _ _ h => h) (Or.inl ⟨by rfl, ?_⟩) (by assumption) ?_
      rotate_left
      · (intro w hSw; (try dsimp only at hSw); go_split_ands; go_simp; try (with_reducible rfl))
      simp only [Act.put, List.setIfInBounds_toArray, List.set_cons_zero, List.set_cons_succ]
      refine wpAnyL_take 8 (oi := { dst := some 47, op := Go.Op.build 55 #[(0, Go.Operand.tmp 44), (1, Go.Operand.tmp 46)], type := 55, pos := "law.go:54", after := #[{ on := 5, ground := Go.Ground.data }, { on := 7, ground := Go.Ground.data }], guard := none }) (v := ?_) rfl (by kernel_rfl) (by kernel_rfl) (by kernel_rfl) (by kernel_rfl) (fun _ _ _ h => h) (Or.inl ⟨by rfl, ?_⟩) (by assumption) ?_
      rotate_left
      · (intro w hSw; (try dsimp only at hSw); go_split_ands; go_simp; try (with_reducible rfl))
      simp only [Act.put, List.setIfInBounds_toArray, List.set_cons_zero, List.set_cons_succ]
      refine wpAnyL_ready (rs := [9]) (by kernel_rfl) (by simp) ?_
      refine AllReadyL.cons (o := { dst := some 48, op := Go.Op.buildSlice 43 1 #[(0, Go.Operand.tmp 47)], type := 43, pos := "law.go:54", after := #[{ on := 8, ground := Go.Ground.data }], guard := none }) rfl (fun K hK => ?_) ?_
      · go_simp
        refine hK.out _ _ (.inr (by (refine keepS3 (S := fun z => v.ownBlock = some z) ?_ (own_ne HS6.out HS6.out.2.1 (by decide)) (own_ne HS6.out HB6.out (by decide)) z2 fz d2; (repeat (first | exact HK49.out | exact Keep.refl _ _ | refine Keep.drew ?_ | refine Keep.drewN ?_ _ | refine Keep.alloc ?_ _ | refine Keep.setNew ?_ (by omega) _)); done))) (fun hS9 => ?_)
        replace hS9 := hS9.resolve_left (by decide)
        try simp only [Act.put, List.setIfInBounds_toArray, List.set_cons_zero, List.set_cons_succ]
        refine wpAnyL_ready (rs := [10]) (by kernel_rfl) (by simp) ?_
        refine AllReadyL.cons (o := { dst := some 49, op := Go.Op.call { callee := Go.Callee.builtin Go.Builtin.append, args := #[Go.Operand.tmp 43, Go.Operand.tmp 48], argTypes := #[43, 43] }, type := 43, pos := "law.go:54", after := #[{ on := 4, ground := Go.Ground.data }, { on := 9, ground := Go.Ground.data }], guard := none }) rfl (fun K hK => ?_) ?_
        · refine step_appF et43 (by rfl) (.tmp 43) (.tmp 48) (by rfl) B v T.length (bkE.cs T) (by rfl) (HS6.out.2.2.1.keep (S := fun _ => False) (by (repeat (first | exact Keep.refl _ _ | exact Keep.refl _ _ | refine Keep.drew ?_ | refine Keep.drewN ?_ _ | refine Keep.alloc ?_ _ | refine Keep.setNew ?_ (by omega) _)); done) (fun _ _ => id)) ⟨w6.heap.size, 0, none⟩ 1 1 [.int .i64 (a' : Int), .int .i64 (o' : Int)] (by rfl) rfl (new_cells (heap_alloc_new w6.drew _)) (by simp [Value.oneCell']) (by unfold maxLen; omega) (by omega) (by have := HS6.out.base; simp; omega) ?_
          intro v49 w49 ho49 hg49 hv49
          obtain ⟨a49, l49, c49, rfl⟩ := own_slice ho49
          have HV49 : Hid (∀ z, (Value.slice a49 l49 c49).ownBlock = some z → v.ownBlock = some z ∨ w6.heap.size ≤ z) := fun z hz => (hv49 z hz).imp id (fun h => by simp at h; omega)
          have HK49 : Hid (Keep (fun z => v.ownBlock = some z) w6 w49) := Keep.grown (by (repeat (first | exact Keep.refl _ _ | exact Keep.refl _ _ | refine Keep.drew ?_ | refine Keep.drewN ?_ _ | refine Keep.alloc ?_ _ | refine Keep.setNew ?_ (by omega) _)); done) hg49 (fun x h1 h2 => h1)
          have HO49 : Hid (OwnL bkE w49 B 55 (.slice a49 l49 c49) (T ++ [⟨a', o'⟩])) := own_conv ho49 (by simp) (by rw [bkE.cs_append, bkE.cs_one]; rfl) (Nat.le_refl _)
          clear ho49 hg49 hv49
          refine hK.out _ _ (.inr (by (refine keepS3 (S := fun z => v.ownBlock = some z) ?_ (own_ne HS6.out HS6.out.2.1 (by decide)) (own_ne HS6.out HB6.out (by decide)) z2 fz d2; (repeat (first | exact HK49.out | exact Keep.refl _ _ | refine Keep.drew ?_ | refine Keep.drewN ?_ _ | refine Keep.alloc ?_ _ | refine Keep.setNew ?_ (by omega) _)); done))) (fun hS10 => ?_)
          replace hS10 := hS10.resolve_left (by decide)
          try simp only [Act.put, List.setIfInBounds_toArray, List.set_cons_zero, List.set_cons_succ]
          refine wpAnyL_ready (rs := [11]) (by kernel_rfl) (by simp) ?_
          refine AllReadyL.cons (o := { dst := some 50, op := Go.Op.nilCheck (Go.Operand.tmp 39), type := 0, pos := "law.go:54", after := #[{ on := 0, ground := Go.Ground.data }, { on := 0, ground := Go.Ground.phase }, { on := 1, ground := Go.Ground.phase }, { on := 2, ground := Go.Ground.phase }, { on := 3, ground := Go.Ground.phase }, { on := 4, ground := Go.Ground.phase }, { on := 5, ground := Go.Ground.phase }, { on := 6, ground := Go.Ground.phase }, { on := 7, ground := Go.Ground.phase }, { on := 8, ground := Go.Ground.phase }, { on := 9, ground := Go.Ground.phase }, { on := 10, ground := Go.Ground.phase }], guard := none }) rfl (fun K hK => ?_) ?_
          · go_simp
            refine hK.out _ _ (.inr (by (refine keepS3 (S := fun z => v.ownBlock = some z) ?_ (own_ne HS6.out HS6.out.2.1 (by decide)) (own_ne HS6.out HB6.out (by decide)) z2 fz d2; (repeat (first | exact HK49.out | exact Keep.refl _ _ | refine Keep.drew ?_ | refine Keep.drewN ?_ _ | refine Keep.alloc ?_ _ | refine Keep.setNew ?_ (by omega) _)); done))) (fun hS11 => ?_)
            replace hS11 := hS11.resolve_left (by decide)
            try simp only [Act.put, List.setIfInBounds_toArray, List.set_cons_zero, List.set_cons_succ]
            refine wpAnyL_take 12 (oi := { dst := some 51, op := Go.Op.fieldAddr 46 (Go.Operand.tmp 50) 2, type := 0, pos := "law.go:54", after := #[{ on := 11, ground := Go.Ground.data }, { on := 0, ground := Go.Ground.phase }, { on := 1, ground := Go.Ground.phase }, { on := 2, ground := Go.Ground.phase }, { on := 3, ground := Go.Ground.phase }, { on := 4, ground := Go.Ground.phase }, { on := 5, ground := Go.Ground.phase }, { on := 6, ground := Go.Ground.phase }, { on := 7, ground := Go.Ground.phase }, { on := 8, ground := Go.Ground.phase }, { on := 9, ground := Go.Ground.phase }, { on := 10, ground := Go.Ground.phase }], guard := none }) (v := ?_) rfl (by kernel_rfl) (by kernel_rfl) (by kernel_rfl) (by kernel_rfl) (fun _ _ _ h => h) (Or.inl ⟨by rfl, ?_⟩) (by assumption) ?_
            rotate_left
            · (intro w hSw; (try dsimp only at hSw); go_split_ands; go_simp; try (with_reducible rfl))
            simp only [Act.put, List.setIfInBounds_toArray, List.set_cons_zero, List.set_cons_succ]
            refine wpAnyL_ready (rs := [13]) (by kernel_rfl) (by simp) ?_
            refine AllReadyL.cons (o := { dst := none, op := Go.Op.store 43 (Go.Operand.tmp 51) (Go.Operand.tmp 49), type := 0, pos := "law.go:54", after := #[{ on := 12, ground := Go.Ground.data }, { on := 10, ground := Go.Ground.data }, { on := 10, ground := Go.Ground.chain }, { on := 0, ground := Go.Ground.phase }, { on := 1, ground := Go.Ground.phase }, { on := 2, ground := Go.Ground.phase }, { on := 3, ground := Go.Ground.phase }, { on := 4, ground := Go.Ground.phase }, { on := 5, ground := Go.Ground.phase }, { on := 6, ground := Go.Ground.phase }, { on := 7, ground := Go.Ground.phase }, { on := 8, ground := Go.Ground.phase }, { on := 9, ground := Go.Ground.phase }, { on := 10, ground := Go.Ground.phase }], guard := none }) rfl (fun K hK => ?_) ?_
            · go_simp
              refine hK.out _ _ (.inl rfl) (fun _ => ?_)
              try simp only [Act.put, List.setIfInBounds_toArray, List.set_cons_zero, List.set_cons_succ]
              refine wpAnyL_done (by kernel_rfl) ?_ _
              refine NoPanic.normal ?_
              have hput := HS6.out.putO HK49.out HO49.out HV49.out
              go_wp2
              go_ret
              exact ⟨rfl, _, _, ⟨_, hput.1, HT.out.push HBK.out.1 HBK.out.2.1 (blk_end HFN.out HBK.out.2.2) HBK.out.2.2⟩, by simp, UpO.trans HU6.out hput.2⟩
            exact AllReadyL.nil
          exact AllReadyL.nil
        exact AllReadyL.nil
      exact AllReadyL.nil

end Go.Proofs.Ytcbkfilhgeeebaa
