/- Compounds: slices.Insert anywhere; one is made anywhere; the errors of Make. -/
import Derived.Test.YtdomdjfecnbenaaA
import Derived.Test.YtdomdjfecnbenaaIns
import Derived.Laws.Externs
set_option linter.unusedVariables false
set_option linter.unusedSimpArgs false
namespace Go.Proofs.Ytdomdjfecnbenaa
open Go.RowKit Go.Own

def InsO (v : Value) (L : List Cp) (i : Nat) (y : Cp) (B : Nat) (w : World) (e : Ending) (w' : World) : Prop :=
  ∃ v', e = .returned v' ∧ OwnL cpE w' B 39 v' (insAt L i y) ∧ Keep (fun x => v.ownBlock = some x) w w' ∧ ∀ x, v'.ownBlock = some x → v.ownBlock = some x ∨ w.heap.size ≤ x

theorem ins_O_place {w w2 : World} {B g cap i n1 : Nat} {L : List Cp} {y : Cp} {cur : List Value} (h : OwnL cpE w B 39 (.slice (some ⟨g, 0, none⟩) L.length cap) L) (hi : i < L.length) (hroom : L.length + 1 ≤ cap)
    (hc : cur.length = cap * cpE.k) (ht : cur.take (L.length * cpE.k) = cpE.cs L) (hm : cap ≤ maxLen) (hB : B ≤ g)
    (h2 : w2.heap[g]? = some (.cells (splice (splice cur ((i + 1) * 2) (cpE.cs (L.drop i))) (i * 2) (cpE.c y)).toArray 39 (0, 0))) (k2 : Keep (fun x => x = g) w w2) (hn : n1 = L.length + 1) :
    InsO (.slice (some ⟨g, 0, none⟩) L.length cap) L i y B w (.returned (.slice (some ⟨g, 0, none⟩) n1 cap)) w2 := by
  subst hn
  have hk : cpE.k = 2 := rfl
  have hA : (cpE.cs (L.take i)).length = i * 2 := by rw [cpE.cs_length, List.length_take, Nat.min_eq_left (by omega), hk]
  have hD : (cpE.cs (L.drop i)).length = (L.length - i) * 2 := by rw [cpE.cs_length, List.length_drop, hk]
  have hY : (cpE.c y).length = 2 := rfl
  have hAD : cpE.cs L = cpE.cs (L.take i) ++ cpE.cs (L.drop i) := by rw [← cpE.cs_append, List.take_append_drop]
  have hp := ins_place cur (cpE.cs (L.take i)) (cpE.c y) (cpE.cs (L.drop i)) (by rw [hA, hD, ← hAD, ← ht, hk]; congr 1; omega) (by rw [hA, hD, hY, hc, hk]; omega)
  rw [hA, hY, hD] at hp
  refine ⟨_, rfl, OwnL.of_block h2 (by rw [insAt_length L (by omega)]) hroom hm ?_ ?_ hB, k2.mono (fun x _ h => by subst h; rfl), fun x hx => .inl hx⟩
  · rw [length_splice, length_splice]
    · exact hc
    · rw [hD, hc, hk]; omega
    · rw [length_splice]
      · rw [hY, hc, hk]; omega
      · rw [hD, hc, hk]; omega
  · rw [insAt_length L (by omega), cs_ins, ← hp, hk, show (i + 1) * 2 = i * 2 + 2 by omega]
    congr 1; omega

theorem ins_O_new {w w2 : World} {B i n1 G b : Nat} {v : Value} {L : List Cp} {y : Cp} {R : List Value} (hi : i < L.length) (hroom : L.length + 1 ≤ G)
    (hc : R.length = G * 2) (ht : R.take (i * 2) = cpE.cs (L.take i)) (hm : G ≤ maxLen) (hB : B ≤ w.heap.size) (hb : b = w.heap.size)
    (h2 : w2.heap[b]? = some (.cells (splice (splice R (i * 2) (cpE.c y)) ((i + 1) * 2) (cpE.cs (L.drop i))).toArray 39 (0, 0))) (k2 : Keep (fun x => False) w w2) (hn : n1 = L.length + 1) :
    InsO v L i y B w (.returned (.slice (some ⟨b, 0, none⟩) n1 G)) w2 := by
  subst hn; subst hb
  have hk : cpE.k = 2 := rfl
  have hA : (cpE.cs (L.take i)).length = i * 2 := by rw [cpE.cs_length, List.length_take, Nat.min_eq_left (by omega), hk]
  have hD : (cpE.cs (L.drop i)).length = (L.length - i) * 2 := by rw [cpE.cs_length, List.length_drop, hk]
  have hY : (cpE.c y).length = 2 := rfl
  have hp := ins_new R (cpE.cs (L.take i)) (cpE.c y) (cpE.cs (L.drop i)) (by rw [hA]; exact ht) (by rw [hA, hD, hY, hc]; omega)
  rw [hA, hY, hD] at hp
  refine ⟨_, rfl, OwnL.of_block h2 (by rw [insAt_length L (by omega)]) hroom hm ?_ ?_ hB, k2.mono (fun x _ h => h.elim), fun x hx => .inr (by simp [Value.ownBlock] at hx; omega)⟩
  · rw [length_splice, length_splice]
    · exact hc
    · rw [hY, hc]; omega
    · rw [length_splice]
      · rw [hD, hc]; omega
      · rw [hY, hc]; omega
  · rw [insAt_length L (by omega), cs_ins, ← hp, hk, show (i + 1) * 2 = i * 2 + 2 by omega]
    congr 1; omega

theorem keep_cellA' {S : Nat → Prop} {w w' : World} (h : Keep S w w') {b : Addr} {j : Nat} (hb : b.block < w.heap.size) (hs : ¬ S b.block) : w'.cell? (b.add j) = w.cell? (b.add j) := by
  have e : (b.add j).block = b.block := by unfold Addr.add; split <;> rfl
  exact World.cell?_of_block (w := w) (h.block _ (by rw [e]; exact hb) (by rw [e]; exact hs))
theorem over_no (w : World) {g vb : Nat} {cur ys : List Value} (hne : vb ≠ g) (hg : w.heap[g]? = some (.cells cur.toArray 39 (0, 0))) (hy : w.heap[vb]? = some (.cells ys.toArray 39 (0, 0))) (h0 : cur.length ≠ 0) (off lb cb : Nat) :
    (callFunc 39 #[.slice (some ⟨vb, 0, none⟩) 1 1, .slice (some ⟨g, off, none⟩) lb cb]).run Try.prog w = .ok (.value (.bool false)) w := by
  rw [run_callFunc_extern Try.func39 (by kernel_rfl) (by kernel_rfl) (by kernel_rfl) (e := Extern.SlicesOverlaps.overlaps #[31, 31] #[4]) (by kernel_rfl),
    overlaps_apart et31 w 4 ⟨vb, 0, none⟩ ⟨g, off, none⟩ 1 1 lb cb hne hy hg (by simpa using h0)]
  rfl

set_option maxRecDepth 100000 in
set_option maxHeartbeats 4000000 in
theorem insert_place (B g cap i vb : Nat) (L : List Cp) (y : Cp) (w : World) (hv : OwnL cpE w B 39 (.slice (some ⟨g, 0, none⟩) L.length cap) L) (hi : i < L.length) (hl : L.length ≤ 200) (hroom : L.length + 1 ≤ cap)
    (hy : w.heap[vb]? = some (.cells (cpE.c y).toArray 39 (0, 0))) (hne : vb ≠ g) :
    Calls Try.prog 27 #[.slice (some ⟨g, 0, none⟩) L.length cap, .int .i64 i, .slice (some ⟨vb, 0, none⟩) 1 1] w (InsO (.slice (some ⟨g, 0, none⟩) L.length cap) L i y B w) := by
  obtain ⟨cur, -, hg, hc, hm, hcl, ht, hBg⟩ := hv.block
  have hk : cpE.k = 2 := rfl
  rw [hk] at hcl
  have HO := Lib.hid hv
  have HG := Lib.hid hg
  have HY := Lib.hid hy
  have HT := Lib.hid ht
  have HM := Lib.hid hm
  have HOV := Lib.hid (over_no w hne hg hy (by omega))
  have HCL := Lib.hid hcl
  unfold maxLen at hm
  clear hv hg hy ht hcl hc
  have hw1 : IntKind.i64.wrap ((i : Int) + 1) = (i : Int) + 1 := IntWalk.i64_in _ (by omega)
  have hb1 : (0 : Int) ≤ (i : Int) + 1 := by omega
  have htn : ((i : Int) + 1).toNat = i + 1 := by omega
  have hb2 : ¬ (cap = i + 1) := by omega
  have hb3 : (i : Int) ≤ (L.length : Int) + 1 := by omega
  have hb3' : (i : Int) ≤ (L.length : Int) := by omega
  have hb4 : ¬ (cap = i) := by omega
  have hb5 : (L.length : Int) + 1 ≤ cap := by omega
  have hb6 : ¬ ((i : Int) = (L.length : Int)) := by omega
  have hdr : (cpE.cs (L.drop i)).length = (L.length - i) * 2 := by rw [cpE.cs_length, List.length_drop, hk]
  have HDR := Lib.hid hdr
  clear hdr
  have hsrc : Hid (∀ j v, (cpE.cs (L.drop i))[j]? = some v → w.cell? ((⟨g, i * 2, none⟩ : Addr).add j) = some v) := by
    have h1 := HO.out.hi (i := i) (m := L.length - i) (c := 0) (o := i * cpE.k) (by omega) rfl rfl
    rcases h1.2 with ⟨h2, _⟩ | ⟨ad, c, h2, h3⟩
    · simp at h2
    · simp only [Value.slice.injEq, Option.some.injEq, true_and] at h2
      obtain ⟨rfl, _⟩ := h2
      exact h3
  go_enter Try.func27, Try.ntmps27
  go_wp2_with (simp only [HOV.out])
  go_region_law (go_loud (refine step_copyK et31 rfl (.tmp 73) (.tmp 76) (by rfl) g ((i + 1) * 2) (L.length + 1 - (i + 1)) (cap - (i + 1)) ⟨g, i * 2, none⟩ (L.length + 1 - i) (cap - i) (by simp [Act.eval, Act.put]) (by simp [Act.eval, Act.put]) cur 39 HG.out (L.length - i) (by simp only [Nat.min_def]; split <;> omega) (cpE.cs (L.drop i)) HDR.out hsrc.out (by rw [HDR.out, HCL.out]; omega) (cpE.cs_one_cell _) ?_; intro w1 hg1 hk1))
  all_goals
    have HG1 := hg1
    obtain ⟨hb7, hcl1⟩ : vb < w.heap.size ∧ (splice cur ((i + 1) * 2) (cpE.cs (L.drop i))).length = cap * 2 := ⟨block_lt HY.out, by rw [length_splice _ _ _ (by rw [HDR.out, HCL.out]; omega)]; exact HCL.out⟩
    have HY1 := Lib.hid ((hk1.out.block vb (by simpa using hb7) hne).trans HY.out)
    have HCL1 := Lib.hid hcl1
    clear hcl1
    go_wp2_with ((refine wpl_copyK et31 rfl (.tmp 80) (.tmp 81) rfl g (i * 2) (L.length + 1 - i) (cap - i) ⟨vb, 0, none⟩ 1 1 (by simp [Act.eval, Act.put]) (by simp [Act.eval, Act.put]) _ 39 HG1.out 1 (by simp only [Nat.min_def]; split <;> omega) (cpE.c y) rfl (fun j v hj => by rw [Addr.add_lit, Nat.zero_add, cell_block HY1.out]; simpa using hj) (by rw [HCL1.out]; show i * 2 + 2 ≤ _; omega) (cpE.one y) ?_; intro w2 hg2 hk2))
    go_ret
    exact ins_O_place HO.out hi hroom HCL.out HT.out HM.out hBg hg2.out ((Keep.drew (Keep.refl _ _)).trans (hk1.out.trans hk2.out)) rfl

set_option maxRecDepth 100000 in
set_option maxHeartbeats 4000000 in
theorem insert_new (B g cap i vb : Nat) (L : List Cp) (y : Cp) (w : World) (hB : B ≤ w.heap.size) (hv : OwnL cpE w B 39 (.slice (some ⟨g, 0, none⟩) L.length cap) L) (hi : i < L.length) (hl : L.length ≤ 200) (hroom : cap < L.length + 1)
    (hy : w.heap[vb]? = some (.cells (cpE.c y).toArray 39 (0, 0))) :
    Calls Try.prog 27 #[.slice (some ⟨g, 0, none⟩) L.length cap, .int .i64 i, .slice (some ⟨vb, 0, none⟩) 1 1] w (InsO (.slice (some ⟨g, 0, none⟩) L.length cap) L i y B w) := by
  obtain ⟨cur, -, hg, hc, hm, hcl, ht, hBg⟩ := hv.block
  have hk : cpE.k = 2 := rfl
  rw [hk] at hcl
  have HO := Lib.hid hv
  have HG := Lib.hid hg
  have HY := Lib.hid hy
  have hgl := block_lt hg
  have hyl := block_lt hy
  have HM := Lib.hid hm
  unfold maxLen at hm
  clear hv hg hy ht hcl
  have hw1 : IntKind.i64.wrap ((i : Int) + 1) = (i : Int) + 1 := IntWalk.i64_in _ (by omega)
  have hb1 : (0 : Int) ≤ (i : Int) + 1 := by omega
  have htn : ((i : Int) + 1).toNat = i + 1 := by omega
  have hb3 : (i : Int) ≤ (L.length : Int) + 1 := by omega
  have hb3' : (i : Int) ≤ (L.length : Int) := by omega
  have hb4 : ¬ (cap = i) := by omega
  have hb5 : (cap : Int) < (L.length : Int) + 1 := by omega
  have hb6 : ¬ ((i : Int) = (L.length : Int)) := by omega
  have hb7 : (i : Int) ≤ cap := by omega
  have hdr : (cpE.cs (L.drop i)).length = (L.length - i) * 2 := by rw [cpE.cs_length, List.length_drop, hk]
  have HDR := Lib.hid hdr
  have htk : (cpE.cs (L.take i)).length = i * 2 := by rw [cpE.cs_length, List.length_take, Nat.min_eq_left (by omega), hk]
  have HTK := Lib.hid htk
  clear hdr htk
  have hsrc : Hid (∀ j v, (cpE.cs (L.drop i))[j]? = some v → w.cell? ((⟨g, i * 2, none⟩ : Addr).add j) = some v) := by
    have h1 := HO.out.hi (i := i) (m := L.length - i) (c := 0) (o := i * cpE.k) (by omega) rfl rfl
    rcases h1.2 with ⟨h2, _⟩ | ⟨ad, c, h2, h3⟩
    · simp at h2
    · simp only [Value.slice.injEq, Option.some.injEq, true_and] at h2
      obtain ⟨rfl, _⟩ := h2
      exact h3
  have hsrc0 : Hid (∀ j v, (cpE.cs (L.take i))[j]? = some v → w.cell? ((⟨g, 0, none⟩ : Addr).add j) = some v) := by
    have h1 := HO.out.lo (i := i) (c := 0) (by omega)
    rcases h1.2 with ⟨h2, _⟩ | ⟨ad, c, h2, h3⟩
    · simp at h2
    · simp only [Value.slice.injEq, Option.some.injEq, true_and] at h2
      obtain ⟨rfl, _⟩ := h2
      exact h3
  go_enter Try.func27, Try.ntmps27
  go_wp2_with (first
    | (refine wpl_zeros et31 rfl (.tmp 34) (.tmp 39) 3 .i64 Try.underlying3 rfl ⟨g, 0, none⟩ i cap rfl (L.length + 1 - i) ((L.length : Int) + 1 - (i : Int)) (by simp [Act.eval, Act.put]) (by omega) (L.length + 1) (by omega) (cpE.cs (L.take i)) HTK.out hsrc0.out (by omega) (by omega) (by unfold maxLen; omega) (by omega) ?_; intro R G w1 hR hRt hG hGm hg1 hk1; have HR := Lib.hid hR; have HRT := Lib.hid hRt; have HGM := Lib.hid hGm; unfold maxLen at hGm; have hGi : ¬ (G = i) := (by omega); have hGim : ¬ (G = i + 1) := (by omega); have hGc : (L.length : Int) + 1 ≤ G := (by omega); have hs1 := hk1.out.size; have HY1 := Lib.hid ((hk1.out.block vb hyl id).trans HY.out); have HRK : Hid (R.length = G * 2) := hR; clear hR hRt)
    | (refine wpl_copyK et31 rfl (.tmp 43) (.tmp 44) rfl w.heap.size (i * 2) (L.length + 1 - i) (G - i) ⟨vb, 0, none⟩ 1 1 (by simp [Act.eval, Act.put]) (by simp [Act.eval, Act.put]) _ 39 hg1.out 1 (by simp only [Nat.min_def]; split <;> omega) (cpE.c y) rfl (fun j v hj => by rw [Addr.add_lit, Nat.zero_add, cell_block HY1.out]; simpa using hj) (by rw [HRK.out]; show i * 2 + 2 ≤ _; omega) (cpE.one y) ?_; intro w2 hg2 hk2))
  have hcl2 : Hid ((splice R (i * 2) (cpE.c y)).length = G * 2) := by
    unfold Hid; rw [length_splice _ _ _ (by rw [HRK.out]; show i * 2 + 2 ≤ _; omega)]; exact HRK.out
  have hsrc2 : Hid (∀ j v, (cpE.cs (L.drop i))[j]? = some v → w2.cell? ((⟨g, i * 2, none⟩ : Addr).add j) = some v) := fun j v hj =>
    (keep_cellA' hk2.out (b := ⟨g, i * 2, none⟩) (show g < w1.heap.size by omega) (show g ≠ w.heap.size by omega)).trans ((keep_cellA' hk1.out (b := ⟨g, i * 2, none⟩) hgl id).trans (hsrc.out j v hj))
  go_region_law (refine step_copyK et31 rfl (.tmp 50) (.tmp 53) (by rfl) w.heap.size ((i + 1) * 2) (L.length + 1 - (i + 1)) (G - (i + 1)) ⟨g, i * 2, none⟩ (L.length - i) (cap - i) (by simp [Act.eval, Act.put]) (by simp [Act.eval, Act.put]) _ 39 hg2.out (L.length - i) (by simp only [Nat.min_def]; split <;> omega) (cpE.cs (L.drop i)) HDR.out hsrc2.out (by rw [HDR.out, hcl2.out]; omega) (cpE.cs_one_cell _) ?_; intro w3 hg3 hk3)
  all_goals
    go_wp2
    go_ret
    exact ins_O_new hi hG HRK.out HRT.out HGM.out hB rfl hg3.out ((((hk1.out.mono (T := fun x => w.heap.size ≤ x) (fun _ _ h => h.elim)).trans (hk2.out.mono (T := fun x => w.heap.size ≤ x) (fun x _ h => by subst h; exact Nat.le_refl _))).drew.trans (hk3.out.mono (T := fun x => w.heap.size ≤ x) (fun x _ h => by subst h; exact Nat.le_refl _))).fresh (fun _ h => h) (Nat.le_refl _)) rfl

end Go.Proofs.Ytdomdjfecnbenaa
