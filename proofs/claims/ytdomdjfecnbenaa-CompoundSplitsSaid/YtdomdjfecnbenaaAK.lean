/- Compounds: Told, the reference's queue, Same. -/
import Derived.Test.YtdomdjfecnbenaaAH
set_option linter.unusedVariables false
set_option linter.unusedSimpArgs false
namespace Go.Proofs.Ytdomdjfecnbenaa
open Go.RowKit Go.Own

theorem wrap8_nat (m g : Nat) : ∃ r : Nat, IntKind.u8.wrap ((m : Int) + (g : Int)) = (r : Int) := by
  have e : ∀ x : Int, IntKind.u8.wrap x = x % 256 := fun x => by simp [IntKind.wrap, IntKind.bits, IntKind.signed]
  rw [e]
  exact Int.eq_ofNat_of_zero_le (Int.emod_nonneg _ (by decide))
theorem wrap8_mul (g : Nat) : ∃ r : Nat, IntKind.u8.wrap ((g : Int) * 2) = (r : Int) := by
  have e : ∀ x : Int, IntKind.u8.wrap x = x % 256 := fun x => by simp [IntKind.wrap, IntKind.bits, IntKind.signed]
  rw [e]
  exact Int.eq_ofNat_of_zero_le (Int.emod_nonneg _ (by decide))

set_option maxRecDepth 100000 in
set_option maxHeartbeats 2000000 in
theorem told_any (B : Nat) (f : Int) (g c : Nat) (s : Int) (b : Nat) (w : World) (hO : OwnL boE w B 4 (.slice (some ⟨g, 0, none⟩) 8 c) (bl b)) :
    Calls Try.prog 34 #[onV f g c s] w fun e w' => ∃ y : Cp, e = .returned (cpV y) ∧ Keep (fun _ => False) w w' := by
  unfold onV
  obtain ⟨n, hn⟩ : ∃ n, w.heap.size = n := ⟨_, rfl⟩
  have HW : Hid (∀ W, W = ((w.alloc (.cells #[.int .i64 f, .slice (some ⟨g, 0, none⟩) 8 c, .int .i64 s] 51)).alloc (.cells #[.int .i64 0, .int .u8 0] 39)).alloc (.cells #[.int .i64 f, .int .u8 0] 39) →
      W.heap[n]? = some (.cells #[.int .i64 f, .slice (some ⟨g, 0, none⟩) 8 c, .int .i64 s] 51 (0, 0)) ∧ W.heap[n + 1]? = some (.cells #[.int .i64 0, .int .u8 0] 39 (0, 0)) ∧ W.heap[n + 1 + 1]? = some (.cells #[.int .i64 f, .int .u8 0] 39 (0, 0)) ∧ Keep (fun _ => False) w W) := by
    rintro W rfl
    subst hn
    refine ⟨?_, ?_, ?_, (((Keep.refl _ _).alloc _).alloc _).alloc _⟩
    · rw [heap_alloc_at, World.size_alloc, World.size_alloc, if_neg (by omega), heap_alloc_at, World.size_alloc, if_neg (by omega)]; exact heap_alloc_new w _
    · rw [heap_alloc_at, World.size_alloc, World.size_alloc, if_neg (by omega), heap_alloc_at, World.size_alloc, if_pos rfl]
    · rw [heap_alloc_at, World.size_alloc, World.size_alloc, if_pos rfl]
  go_enter Try.func34, Try.ntmps34
  go_wp2
  generalize hw1 : ((w.alloc (.cells #[.int .i64 f, .slice (some ⟨g, 0, none⟩) 8 c, .int .i64 s] 51)).alloc (.cells #[.int .i64 0, .int .u8 0] 39)).alloc (.cells #[.int .i64 f, .int .u8 0] 39) = w1
  obtain ⟨h0, h1, h2, hk1⟩ := HW.out w1 hw1.symm
  have H0 := Lib.hid h0
  have H1 := Lib.hid h1
  have H2 := Lib.hid h2
  have HK1 := Lib.hid hk1
  have HN := Lib.hid hn
  have hgl : g < n := by rw [← hn]; exact (hO.lt g rfl).2
  have hO1 := Lib.hid (hO.keep hk1 (fun _ _ => id))
  clear h0 h1 h2 hk1 hw1 HW hn
  go_loopw [4, 5] (fun v i wr => ∃ k : Nat, k ≤ 8 ∧ i = .int .i64 k ∧ ∃ r : Nat, v = .int .u8 r ∧ ∃ m : Nat, wr.heap[n + 1 + 1]? = some (.cells #[.int .i64 f, .int .u8 m] 39 (0, 0)) ∧ Keep (fun x => x = n + 1 + 1) w1 wr) (fun _ i _ => 8 - (intOf i).toNat)
  case atStart => exact ⟨0, by omega, rfl, 1, rfl, 0, H2.out, Keep.refl _ _⟩
  case round =>
    obtain ⟨k, hk, rfl, r, rfl, m, hm, hkeep⟩ := hrel
    have HM := Lib.hid hm
    have HK := Lib.hid hkeep
    clear hm hkeep
    have hc0 : wr.cell? ⟨n, 1, none⟩ = some (.slice (some ⟨g, 0, none⟩) 8 c) := by rw [cell_block ((HK.out.block n (block_lt H0.out) (by omega)).trans H0.out)]; rfl
    obtain ⟨m0, m1⟩ := cells2 HM.out
    by_cases hlt : k < 8
    · have d0 := bo_cell (hO1.out.keep HK.out (fun x hx => by simp [Value.ownBlock] at hx; omega)) hlt
      obtain ⟨r2, hr2⟩ := wrap8_mul r
      obtain ⟨m2, hm2⟩ := wrap8_nat m r
      have f1 : wr.frozen? ⟨n + 1 + 1, 1, none⟩ = false := frozen_block HM.out
      by_cases e : b / 2 ^ k % 2 = 1
      · have e' : (b / 2 ^ k % 2 == 1) = true := by simpa using e
        rw [e'] at d0
        have HS : Hid ((wr.setCell ⟨n + 1 + 1, 1, none⟩ (.int .u8 m2)).heap[n + 1 + 1]? = some (.cells #[.int .i64 f, .int .u8 m2] 39 (0, 0))) := by
          unfold Hid; rw [heap_setCell_eq HM.out]; simp
        clear e e'
        go_wp2
        go_roundw
        case rel => exact ⟨k + 1, by omega, by go_num, r2, rfl, m2, HS.out, HK.out.setCell (fun _ => rfl) _⟩
        case measure => simp [intOf]; omega
      · have e' : (b / 2 ^ k % 2 == 1) = false := by simpa using e
        rw [e'] at d0
        clear e e'
        go_wp2
        go_roundw
        case rel => exact ⟨k + 1, by omega, by go_num, r2, rfl, m, HM.out, HK.out⟩
        case measure => simp [intOf]; omega
    · obtain rfl : k = 8 := by omega
      have hb1 := (HK.out.block (n + 1) (block_lt H1.out) (by omega)).trans H1.out
      have hz := block_lt hb1
      obtain ⟨b0, b1⟩ := cells2 hb1
      have f0 : wr.frozen? ⟨n + 1, 0, none⟩ = false := frozen_block hb1
      have f1 : wr.frozen? ⟨n + 1, 1, none⟩ = false := frozen_block hb1
      go_wp2
      refine bodyPost_ret (v := cpV ⟨f, m⟩) ?_ rfl ⟨⟨f, m⟩, rfl, ?_⟩
      · simp [results, Try.results34, go_sem, cpV, b0, b1, hz]
      · have hK : Keep (fun x => w.heap.size ≤ x) w1 wr := HK.out.mono fun x _ hx => by rw [HN.out]; omega
        exact Keep.fresh (((HK1.out.mono (T := fun x => w.heap.size ≤ x) (fun _ _ h => h.elim)).trans hK).setCell (fun _ => by rw [HN.out]; simp) _ |>.setCell (fun _ => by rw [HN.out]; simp) _) (fun _ h => h) (Nat.le_refl _)

/-- How many of the first k have a since in a stretch. -/
def sn (X : List On) (lo hi : Int) : Nat := (X.filter fun x => decide (lo ≤ x.s ∧ x.s < hi)).length
theorem sn_le (X : List On) (lo hi : Int) : sn X lo hi ≤ X.length := List.length_filter_le _ _
theorem sn_empty (X : List On) (t : Int) : sn X t t = 0 := by
  unfold sn
  rw [List.length_eq_zero_iff, List.filter_eq_nil_iff]
  intro x _; simp
theorem sn_step (X : List On) (t : Int) (h : 1 ≤ t) : sn X 1 (t + 1) = sn X 1 t + sn X t (t + 1) := by
  unfold sn
  induction X with
  | nil => rfl
  | cons x X ih =>
    simp only [List.filter_cons, decide_eq_true_eq]
    by_cases a : 1 ≤ x.s ∧ x.s < t
    · rw [if_pos (show 1 ≤ x.s ∧ x.s < t + 1 by omega), if_pos a, if_neg (show ¬ (t ≤ x.s ∧ x.s < t + 1) by omega)]
      simp only [List.length_cons]; omega
    · by_cases c : t ≤ x.s ∧ x.s < t + 1
      · rw [if_pos (show 1 ≤ x.s ∧ x.s < t + 1 by omega), if_neg a, if_pos c]
        simp only [List.length_cons]; omega
      · rw [if_neg (show ¬ (1 ≤ x.s ∧ x.s < t + 1) by omega), if_neg a, if_neg c]
        exact ih
theorem sn_take (X : List On) (lo hi : Int) {k : Nat} (hk : k < X.length) : sn (X.take (k + 1)) lo hi = sn (X.take k) lo hi + if lo ≤ X[k].s ∧ X[k].s < hi then 1 else 0 := by
  unfold sn
  rw [List.take_succ_eq_append_getElem hk, List.filter_append, List.length_append]
  by_cases h : lo ≤ X[k].s ∧ X[k].s < hi
  · simp [h]
  · rw [if_neg h]; simp; omega

def QX (w : World) (X : List On) (T : Int) (e : Ending) (w' : World) : Prop := ∃ v' D, e = .returned v' ∧ OwnL cpE w' w.heap.size 39 v' D ∧ D.length = sn X 1 (T + 1) ∧ Keep (fun _ => False) w w'
theorem heap_two2 (w : World) (a b : Obj) : ((w.alloc a).alloc b).heap[w.heap.size + 1]? = some b := by
  have h := heap_alloc_new (w.alloc a) b
  rw [World.size_alloc] at h
  exact h

set_option maxRecDepth 100000 in
set_option maxHeartbeats 4000000 in
theorem queueX_any (B q : Nat) (v : Value) (X : List On) (T : Int) (w : World) (hR : RepX w B q v X T) (hl : X.length ≤ 100) (hT : T ≤ 200) :
    Calls Try.prog 22 #[.pointer (some ⟨q, 0, none⟩)] w (QX w X T) := by
  have HR := Lib.hid hR
  have hT0 := hR.ht.1
  obtain ⟨a, cap, rfl, hag⟩ := hR.hv.slice
  have HAG := Lib.hid hag
  clear hag hR
  go_enter Try.func22, Try.ntmps22
  go_wp2
  go_loopw [3, 4] (fun o t wr => ∃ j : Nat, 1 ≤ j ∧ (j : Int) ≤ T + 1 ∧ t = .int .i64 j ∧ ∃ (o' : Value) (D : List Cp), o' = o ∧ OwnL cpE wr w.heap.size 39 o' D ∧ D.length = sn X 1 j ∧ Keep (fun x => w.heap.size ≤ x) w wr) (fun _ t _ => (T + 1 - intOf t).toNat)
  case atStart => exact ⟨1, by omega, by omega, rfl, _, [], rfl, OwnL.nil _ _ _, (sn_empty X 1).symm, Keep.refl _ _⟩
  case round =>
    obtain ⟨j, hj1, hj2, rfl, o, D, ho, hO, hD, hkeep⟩ := hrel
    subst ho
    have HO := Lib.hid hO
    have HD := Lib.hid hD
    have HKx := Lib.hid hkeep
    have HK := Lib.hid (hkeep.fresh (fun _ h => h) (Nat.le_refl _))
    have hDl : D.length ≤ 100 := by rw [hD]; exact Nat.le_trans (sn_le _ _ _) hl
    clear hO hD hkeep
    have HR1 := Lib.hid (HR.out.keep0 HK.out)
    have e0 := HR1.out.c0
    have e1 := HR1.out.c1
    by_cases hjt : (j : Int) ≤ T
    · obtain ⟨wo, rfl⟩ : ∃ wo : World, wo = wr := ⟨_, rfl⟩
      go_wp2
      go_loopw [3, 5] (fun o i w2 => ∃ k : Nat, k ≤ X.length ∧ i = .int .i64 k ∧ ∃ (o' : Value) (E : List Cp), o' = o ∧ OwnL cpE w2 w.heap.size 39 o' E ∧ E.length = D.length + sn (X.take k) j (j + 1) ∧ Keep (fun x => w.heap.size ≤ x) w w2) (fun _ i _ => X.length - (intOf i).toNat)
      case atStart => exact ⟨0, by omega, rfl, _, D, rfl, HO.out, by simp [sn], HKx.out⟩
      case round =>
        obtain ⟨k, hk, rfl, o2, E, ho2, hE, hEl, hkeep2⟩ := hrel
        subst ho2
        have HE := Lib.hid hE
        have HEL := Lib.hid hEl
        have HK2x := Lib.hid hkeep2
        have HK2 := Lib.hid (hkeep2.fresh (fun _ h => h) (Nat.le_refl _))
        have hs2 := hkeep2.size
        have hEl2 : E.length ≤ 200 := by rw [hEl]; have := sn_le (X.take k) j (j + 1); have := List.length_take_le k X; omega
        clear hE hEl hkeep2
        have HR2 := Lib.hid (HR.out.keep0 HK2.out)
        have g0 := HR2.out.c0
        clear e0 e1
        by_cases hlt : k < X.length
        · obtain ⟨g, rfl⟩ := HAG.out (by intro e; rw [e] at hlt; simp at hlt)
          obtain ⟨c0, c1, c2⟩ := on_cells HR2.out.hv hlt
          have hbo := HR2.out.hb _ (List.getElem_mem hlt)
          have htk := sn_take X j (j + 1) hlt
          obtain ⟨y, hy⟩ : ∃ y, X[k] = y := ⟨_, rfl⟩
          rw [hy] at c0 c1 c2 hbo htk
          clear hy
          unfold On.v at hbo
          by_cases hs : y.s = j
          · have hs' : (y.s == (j : Int)) = true := by simpa using hs
            have HT1 : Hid (sn (X.take (k + 1)) j (j + 1) = sn (X.take k) j (j + 1) + 1) := by unfold Hid; rw [htk, if_pos (by omega)]
            clear htk hs
            obtain ⟨ao, co, rfl, -⟩ := HE.out.slice
            go_wp2_with (first | (go_at_call 34; refine (told_any B y.f y.g y.c y.s y.b _ hbo).mono ?_; unfold cpV; rintro e w3 ⟨z, rfl, hk3⟩; have HK3 := Lib.hid hk3; have HOk : Hid (w3.ownsRow w.heap.size 39 cpE.k (.slice ao E.length co) E.length (cpE.cs E)) := HE.out.keep hk3 (fun _ _ => id); clear hk3) | (at_builtin; (refine wpl_app et31 rfl (.tmp 33) (.tmp 42) rfl w.heap.size _ E.length (cpE.cs E) rfl (HOk.out.alloc _) (.slice (some ⟨w3.heap.size, 0, none⟩) 1 1) 1 (cpE.c z) rfl (Reads.new (heap_alloc_new w3 _) rfl 1) (cpE.one z) (by unfold maxLen; omega) (by omega) (by have := HK3.out.size; simp; omega) ?_; intro v1 w1 hown1 hgrow1; have HK1 : Hid (Keep (fun x => w.heap.size ≤ x) w w1) := Keep.grown (((HK2.out.trans HK3.out).mono (fun _ _ h => h.elim)).alloc _) hgrow1 (fun x h1 h2 => by have := (HE.out.lt x h1).1; omega); have HO1 : Hid (OwnL cpE w1 w.heap.size 39 v1 (E ++ [z])) := (by unfold Hid OwnL; rw [List.length_append, cpE.cs_append, cpE.cs_one]; exact hown1); clear hown1 hgrow1)))
            go_roundw
            case rel => exact ⟨k + 1, by omega, by go_num, _, E ++ [z], rfl, HO1.out, by rw [HT1.out, List.length_append, HEL.out]; simp; omega, HK1.out⟩
            case measure => simp [intOf]; omega
          · have hs' : (y.s == (j : Int)) = false := by simpa using hs
            have HT1 : Hid (sn (X.take (k + 1)) j (j + 1) = sn (X.take k) j (j + 1)) := by unfold Hid; rw [htk, if_neg (by omega)]; rfl
            clear htk hs
            go_wp2
            go_roundw
            case rel => exact ⟨k + 1, by omega, by go_num, _, E, rfl, HE.out, by rw [HT1.out]; exact HEL.out, HK2x.out⟩
            case measure => simp [intOf]; omega
        · obtain rfl : k = X.length := by omega
          have HT1 : Hid (E.length = sn X 1 ((j + 1 : Nat) : Int)) := by
            unfold Hid
            have h := HEL.out
            rw [List.take_length, HD.out] at h
            rw [h, Int.natCast_add, Int.natCast_one]; exact (sn_step X j (by omega)).symm
          go_wp2
          go_roundw
          case rel => exact ⟨j + 1, by omega, by omega, by go_num, _, E, rfl, HE.out, HT1.out, HK2x.out⟩
          case measure => simp [intOf]; omega
    · have hjj : (j : Int) = T + 1 := by omega
      have HJ := Lib.hid hjj
      clear hjj
      obtain ⟨ao, co, rfl, -⟩ := HO.out.slice
      go_wp2
      go_ret
      exact ⟨_, D, rfl, HO.out, by rw [← HJ.out]; exact HD.out, HK.out⟩

end Go.Proofs.Ytdomdjfecnbenaa
