/- Buddy: rows of numbers; slices.Insert of one number, anywhere. -/
import Derived.Test.YtnjcchgbkemekaaRows
import Derived.Test.YtnjcchgbkemekaaLib
import Derived.Test.YtnjcchgbkemekaaReg
import Derived.Test.YtnjcchgbkemekaaIns
import Derived.KernelRfl
import Derived.Laws.ResultCell
import Derived.Deep.RegionHeld3
import Derived.Deep.RegionLaw
import Derived.Deep.RegionLawGrows
import Derived.IntWalk
import Derived.Deep.QuietTactic
import Derived.BigQuiet
import Derived.Laws.BitsAllLaws
import Derived.OwnWalk
import Derived.Laws.Externs
import Derived.WalkLawsBesides
set_option linter.unusedVariables false
set_option linter.unusedSimpArgs false
namespace Go.Proofs.Ytnjcchgbkemekaa
open Go.RowKit Go.Own

def inE : Enc Int where
  c := fun x => [.int .i64 x]
  k := 1
  hk := by decide
  len := fun _ => rfl
  one := fun x u hu => by simp at hu; subst hu; rfl
theorem info3 : (Try.prog.info? 3).map (fun i => (i.zero, i.size, i.bytes)) = some (some (.int .i64 0), 1, 8) := by kernel_rfl
theorem et60 : ET Try.prog 33 3 (.int .i64 0) 1 8 := ⟨Try.underlying33, info3, rfl, by decide⟩
theorem in_cell {w : World} {B : Nat} {g n cap i : Nat} {Q : List Int} (h : OwnL inE w B 3 (.slice (some ⟨g, 0, none⟩) n cap) Q) (hi : i < Q.length) :
    w.cell? ⟨g, i, none⟩ = some (.int .i64 Q[i]) := by
  have := OwnL.cell (j := 0) h hi (by decide)
  simpa [inE] using this
theorem typ_ne {w : World} {a b : Nat} {c1 c2 : Array Value} {e1 e2 : TypeId} {z1 z2 : Nat × Nat} (h1 : w.heap[a]? = some (.cells c1 e1 z1)) (h2 : w.heap[b]? = some (.cells c2 e2 z2)) (he : e1 ≠ e2) : a ≠ b := by
  intro e; subst e
  rw [h1] at h2
  simp only [Option.some.injEq, Obj.cells.injEq] at h2
  exact he h2.2.1
theorem own_typ {α : Type} {E : Enc α} {w : World} {B : Nat} {e : TypeId} {v : Value} {L : List α} (h : OwnL E w B e v L) {x : Nat} (hx : v.ownBlock = some x) : ∃ c, w.heap[x]? = some (.cells c e (0, 0)) := by
  rcases h.2 with ⟨rfl, _⟩ | ⟨g, cap, cur, rfl, _, hg, _⟩
  · cases hx
  · simp only [Value.ownBlock, Option.some.injEq] at hx; subst hx; exact ⟨cur, hg⟩
theorem _root_.Go.Own.Keep.on {S T : Nat → Prop} {a b c : World} (h : Keep S a b) (k : Keep T b c) (hT : ∀ z, z < a.heap.size → T z → S z) : Keep S a c :=
  ⟨k.os.trans h.os, k.tape.trans h.tape, k.output.trans h.output, Nat.le_trans h.size k.size, fun z hz hs => (k.block z (Nat.lt_of_lt_of_le hz h.size) (fun e => hs (hT z hz e))).trans (h.block z hz hs)⟩

set_option maxHeartbeats 1000000 in
theorem insert_end (B : Nat) (v : Value) (L : List Int) (y : Int) (ad : Addr) (c : Nat) (w : World) (hB : B ≤ w.heap.size) (hv : OwnL inE w B 3 v L) (hl : L.length ≤ 2000) (hy : Reads w (.slice (some ad) 1 c) 1 inE.k (inE.c y)) :
    Calls Try.prog 62 #[v, .int .i64 L.length, .slice (some ad) 1 c] w fun e w' => ∃ v', e = .returned v' ∧ OwnL inE w' B 3 v' (L ++ [y]) ∧ w.grownBy w' v.ownBlock := by
  obtain ⟨vhi, hhi, -⟩ := sl_hi et60 hv (i := L.length) (Nat.le_refl _) ↑L.length rfl
  obtain ⟨a, c0, rfl, -⟩ := hv.slice
  go_enter Try.func62, Try.ntmps62
  go_wp2_with (at_builtin; refine wpl_app et60 rfl (.tmp 23) (.tmp 24) rfl B _ L.length (inE.cs L) rfl hv (.slice (some ad) 1 c) 1 (inE.c y) rfl hy (inE.one y) (by unfold maxLen; omega) (by omega) hB ?_; intro v1 w1 hown1 hgrow1)
  go_ret
  refine ⟨_, rfl, ?_, hgrow1⟩
  unfold OwnL
  rw [List.length_append, inE.cs_append, inE.cs_one]
  exact hown1


def InsO (v : Value) (L : List Int) (i : Nat) (y : Int) (B : Nat) (w : World) (e : Ending) (w' : World) : Prop :=
  ∃ v', e = .returned v' ∧ OwnL inE w' B 3 v' (insAt L i y) ∧ Keep (fun x => v.ownBlock = some x) w w' ∧ ∀ x, v'.ownBlock = some x → v.ownBlock = some x ∨ w.heap.size ≤ x

theorem ins_O_place {w w2 : World} {B g cap i n1 : Nat} {L : List Int} {y : Int} {cur : List Value} (h : OwnL inE w B 3 (.slice (some ⟨g, 0, none⟩) L.length cap) L) (hi : i < L.length) (hroom : L.length + 1 ≤ cap)
    (hc : cur.length = cap * inE.k) (ht : cur.take (L.length * inE.k) = inE.cs L) (hm : cap ≤ maxLen) (hB : B ≤ g)
    (h2 : w2.heap[g]? = some (.cells (splice (splice cur ((i + 1)) (inE.cs (L.drop i))) (i) (inE.c y)).toArray 3 (0, 0))) (k2 : Keep (fun x => x = g) w w2) (hn : n1 = L.length + 1) :
    InsO (.slice (some ⟨g, 0, none⟩) L.length cap) L i y B w (.returned (.slice (some ⟨g, 0, none⟩) n1 cap)) w2 := by
  subst hn
  have hk : inE.k = 1 := rfl
  have hA : (inE.cs (L.take i)).length = i := by rw [inE.cs_length, List.length_take, Nat.min_eq_left (by omega), hk, Nat.mul_one]
  have hD : (inE.cs (L.drop i)).length = (L.length - i) := by rw [inE.cs_length, List.length_drop, hk, Nat.mul_one]
  have hY : (inE.c y).length = 1 := rfl
  have hAD : inE.cs L = inE.cs (L.take i) ++ inE.cs (L.drop i) := by rw [← inE.cs_append, List.take_append_drop]
  have hp := ins_place cur (inE.cs (L.take i)) (inE.c y) (inE.cs (L.drop i)) (by rw [hA, hD, ← hAD, ← ht, hk]; congr 1; omega) (by rw [hA, hD, hY, hc, hk]; omega)
  rw [hA, hY, hD] at hp
  refine ⟨_, rfl, OwnL.of_block h2 (by rw [insAt_length L (by omega)]) hroom hm ?_ ?_ hB, k2.mono (fun x _ h => by subst h; rfl), fun x hx => .inl hx⟩
  · rw [length_splice, length_splice]
    · exact hc
    · rw [hD, hc, hk]; omega
    · rw [length_splice]
      · rw [hY, hc, hk]; omega
      · rw [hD, hc, hk]; omega
  · rw [insAt_length L (by omega), cs_ins, ← hp, hk, show i + 1 = i + 1 from rfl]
    congr 1; omega

theorem ins_O_new {w w2 : World} {B i n1 G b : Nat} {v : Value} {L : List Int} {y : Int} {R : List Value} (hi : i < L.length) (hroom : L.length + 1 ≤ G)
    (hc : R.length = G) (ht : R.take (i) = inE.cs (L.take i)) (hm : G ≤ maxLen) (hB : B ≤ w.heap.size) (hb : b = w.heap.size)
    (h2 : w2.heap[b]? = some (.cells (splice (splice R (i) (inE.c y)) ((i + 1)) (inE.cs (L.drop i))).toArray 3 (0, 0))) (k2 : Keep (fun x => False) w w2) (hn : n1 = L.length + 1) :
    InsO v L i y B w (.returned (.slice (some ⟨b, 0, none⟩) n1 G)) w2 := by
  subst hn; subst hb
  have hk : inE.k = 1 := rfl
  have hA : (inE.cs (L.take i)).length = i := by rw [inE.cs_length, List.length_take, Nat.min_eq_left (by omega), hk, Nat.mul_one]
  have hD : (inE.cs (L.drop i)).length = (L.length - i) := by rw [inE.cs_length, List.length_drop, hk, Nat.mul_one]
  have hY : (inE.c y).length = 1 := rfl
  have hp := ins_new R (inE.cs (L.take i)) (inE.c y) (inE.cs (L.drop i)) (by rw [hA]; exact ht) (by rw [hA, hD, hY, hc]; omega)
  rw [hA, hY, hD] at hp
  refine ⟨_, rfl, OwnL.of_block h2 (by rw [insAt_length L (by omega)]) hroom hm ?_ ?_ hB, k2.mono (fun x _ h => h.elim), fun x hx => .inr (by simp [Value.ownBlock] at hx; omega)⟩
  · rw [length_splice, length_splice]
    · show _ = G * 1; omega
    · rw [hY, hc]; omega
    · rw [length_splice]
      · rw [hD, hc]; omega
      · rw [hY, hc]; omega
  · rw [insAt_length L (by omega), cs_ins, ← hp, hk, show i + 1 = i + 1 from rfl]
    congr 1; omega

theorem keep_cellA' {S : Nat → Prop} {w w' : World} (h : Keep S w w') {b : Addr} {j : Nat} (hb : b.block < w.heap.size) (hs : ¬ S b.block) : w'.cell? (b.add j) = w.cell? (b.add j) := by
  have e : (b.add j).block = b.block := by unfold Addr.add; split <;> rfl
  exact World.cell?_of_block (w := w) (h.block _ (by rw [e]; exact hb) (by rw [e]; exact hs))
theorem over_no (w : World) {g vb : Nat} {cur ys : List Value} (hne : vb ≠ g) (hg : w.heap[g]? = some (.cells cur.toArray 3 (0, 0))) (hy : w.heap[vb]? = some (.cells ys.toArray 3 (0, 0))) (h0 : cur.length ≠ 0) (off lb cb : Nat) :
    (callFunc 75 #[.slice (some ⟨vb, 0, none⟩) 1 1, .slice (some ⟨g, off, none⟩) lb cb]).run Try.prog w = .ok (.value (.bool false)) w := by
  rw [run_callFunc_extern Try.func75 (by kernel_rfl) (by kernel_rfl) (by kernel_rfl) (e := Extern.SlicesOverlaps.overlaps #[33, 33] #[4]) (by kernel_rfl),
    overlaps_apart et60 w 4 ⟨vb, 0, none⟩ ⟨g, off, none⟩ 1 1 lb cb hne hy hg (by simpa using h0)]
  rfl

set_option maxRecDepth 100000 in
set_option maxHeartbeats 4000000 in
theorem insert_place (B g cap i vb : Nat) (L : List Int) (y : Int) (w : World) (hv : OwnL inE w B 3 (.slice (some ⟨g, 0, none⟩) L.length cap) L) (hi : i < L.length) (hl : L.length ≤ 2000) (hroom : L.length + 1 ≤ cap)
    (hy : w.heap[vb]? = some (.cells (inE.c y).toArray 3 (0, 0))) (hne : vb ≠ g) :
    Calls Try.prog 62 #[.slice (some ⟨g, 0, none⟩) L.length cap, .int .i64 i, .slice (some ⟨vb, 0, none⟩) 1 1] w (InsO (.slice (some ⟨g, 0, none⟩) L.length cap) L i y B w) := by
  obtain ⟨cur, -, hg, hc, hm, hcl, ht, hBg⟩ := hv.block
  have hk : inE.k = 1 := rfl
  rw [hk, Nat.mul_one] at hcl
  have HO := Lib.hid hv
  have HG := Lib.hid hg
  have HY := Lib.hid hy
  have HT := Lib.hid ht
  have HM := Lib.hid hm
  have HOV := Lib.hid (over_no w hne hg hy (by omega))
  have HCL := Lib.hid hcl
  unfold maxLen at hm
  clear hv hg hy ht hcl hc
  have hw1 : IntKind.i64.wrap ((i : Int) + 1) = (i : Int) + 1 := IntWalk.i64_in _ (by omega)
  have hb1 : (0 : Int) ≤ (i : Int) + 1 := by omega
  have htn : ((i : Int) + 1).toNat = i + 1 := by omega
  have hb2 : ¬ (cap = i + 1) := by omega
  have hb3 : (i : Int) ≤ (L.length : Int) + 1 := by omega
  have hb3' : (i : Int) ≤ (L.length : Int) := by omega
  have hb4 : ¬ (cap = i) := by omega
  have hb5 : (L.length : Int) + 1 ≤ cap := by omega
  have hb6 : ¬ ((i : Int) = (L.length : Int)) := by omega
  have hdr : (inE.cs (L.drop i)).length = (L.length - i) := by rw [inE.cs_length, List.length_drop, hk, Nat.mul_one]
  have HDR := Lib.hid hdr
  clear hdr
  have hsrc : Hid (∀ j v, (inE.cs (L.drop i))[j]? = some v → w.cell? ((⟨g, i, none⟩ : Addr).add j) = some v) := by
    have h1 := HO.out.hi (i := i) (m := L.length - i) (c := 0) (o := i) (by omega) rfl (by show i = i * 1; omega)
    rcases h1.2 with ⟨h2, _⟩ | ⟨ad, c, h2, h3⟩
    · simp at h2
    · simp only [Value.slice.injEq, Option.some.injEq, true_and] at h2
      obtain ⟨rfl, _⟩ := h2
      exact h3
  go_enter Try.func62, Try.ntmps62
  go_wp2_with (simp only [HOV.out])
  go_region_law (go_loud (refine step_copyK et60 rfl (.tmp 73) (.tmp 76) (by rfl) g ((i + 1)) (L.length + 1 - (i + 1)) (cap - (i + 1)) ⟨g, i, none⟩ (L.length + 1 - i) (cap - i) (by simp [Act.eval, Act.put]) (by simp [Act.eval, Act.put]) cur 3 HG.out (L.length - i) (by simp only [Nat.min_def]; split <;> omega) (inE.cs (L.drop i)) (by rw [Nat.mul_one]; exact HDR.out) hsrc.out (by rw [HDR.out, HCL.out]; omega) (inE.cs_one_cell _) ?_; intro w1 hg1 hk1))
  all_goals
    have HG1 := hg1
    obtain ⟨hb7, hcl1⟩ : vb < w.heap.size ∧ (splice cur ((i + 1)) (inE.cs (L.drop i))).length = cap := ⟨block_lt HY.out, by rw [length_splice _ _ _ (by rw [HDR.out, HCL.out]; omega)]; exact HCL.out⟩
    have HY1 := Lib.hid ((hk1.out.block vb (by simpa using hb7) hne).trans HY.out)
    have HCL1 := Lib.hid hcl1
    clear hcl1
    go_wp2_with ((refine wpl_copyK et60 rfl (.tmp 80) (.tmp 81) rfl g (i) (L.length + 1 - i) (cap - i) ⟨vb, 0, none⟩ 1 1 (by simp [Act.eval, Act.put]) (by simp [Act.eval, Act.put]) _ 3 HG1.out 1 (by simp only [Nat.min_def]; split <;> omega) (inE.c y) rfl (fun j v hj => by rw [Addr.add_lit, Nat.zero_add, cell_block HY1.out]; simpa using hj) (by rw [HCL1.out]; show i + 1 ≤ _; omega) (inE.one y) ?_; intro w2 hg2 hk2))
    go_ret
    exact ins_O_place HO.out hi hroom (by show _ = cap * 1; rw [Nat.mul_one]; exact HCL.out) HT.out HM.out hBg hg2.out ((Keep.drew (Keep.refl _ _)).trans (hk1.out.trans hk2.out)) rfl

set_option maxRecDepth 100000 in
set_option maxHeartbeats 4000000 in
theorem insert_new (B g cap i vb : Nat) (L : List Int) (y : Int) (w : World) (hB : B ≤ w.heap.size) (hv : OwnL inE w B 3 (.slice (some ⟨g, 0, none⟩) L.length cap) L) (hi : i < L.length) (hl : L.length ≤ 2000) (hroom : cap < L.length + 1)
    (hy : w.heap[vb]? = some (.cells (inE.c y).toArray 3 (0, 0))) :
    Calls Try.prog 62 #[.slice (some ⟨g, 0, none⟩) L.length cap, .int .i64 i, .slice (some ⟨vb, 0, none⟩) 1 1] w (InsO (.slice (some ⟨g, 0, none⟩) L.length cap) L i y B w) := by
  obtain ⟨cur, -, hg, hc, hm, hcl, ht, hBg⟩ := hv.block
  have hk : inE.k = 1 := rfl
  rw [hk, Nat.mul_one] at hcl
  have HO := Lib.hid hv
  have HG := Lib.hid hg
  have HY := Lib.hid hy
  have hgl := block_lt hg
  have hyl := block_lt hy
  have HM := Lib.hid hm
  unfold maxLen at hm
  clear hv hg hy ht hcl
  have hw1 : IntKind.i64.wrap ((i : Int) + 1) = (i : Int) + 1 := IntWalk.i64_in _ (by omega)
  have hb1 : (0 : Int) ≤ (i : Int) + 1 := by omega
  have htn : ((i : Int) + 1).toNat = i + 1 := by omega
  have hb3 : (i : Int) ≤ (L.length : Int) + 1 := by omega
  have hb3' : (i : Int) ≤ (L.length : Int) := by omega
  have hb4 : ¬ (cap = i) := by omega
  have hb5 : (cap : Int) < (L.length : Int) + 1 := by omega
  have hb6 : ¬ ((i : Int) = (L.length : Int)) := by omega
  have hb7 : (i : Int) ≤ cap := by omega
  have hdr : (inE.cs (L.drop i)).length = (L.length - i) := by rw [inE.cs_length, List.length_drop, hk, Nat.mul_one]
  have HDR := Lib.hid hdr
  have htk : (inE.cs (L.take i)).length = i := by rw [inE.cs_length, List.length_take, Nat.min_eq_left (by omega), hk, Nat.mul_one]
  have HTK := Lib.hid htk
  clear hdr htk
  have hsrc : Hid (∀ j v, (inE.cs (L.drop i))[j]? = some v → w.cell? ((⟨g, i, none⟩ : Addr).add j) = some v) := by
    have h1 := HO.out.hi (i := i) (m := L.length - i) (c := 0) (o := i) (by omega) rfl (by show i = i * 1; omega)
    rcases h1.2 with ⟨h2, _⟩ | ⟨ad, c, h2, h3⟩
    · simp at h2
    · simp only [Value.slice.injEq, Option.some.injEq, true_and] at h2
      obtain ⟨rfl, _⟩ := h2
      exact h3
  have hsrc0 : Hid (∀ j v, (inE.cs (L.take i))[j]? = some v → w.cell? ((⟨g, 0, none⟩ : Addr).add j) = some v) := by
    have h1 := HO.out.lo (i := i) (c := 0) (by omega)
    rcases h1.2 with ⟨h2, _⟩ | ⟨ad, c, h2, h3⟩
    · simp at h2
    · simp only [Value.slice.injEq, Option.some.injEq, true_and] at h2
      obtain ⟨rfl, _⟩ := h2
      exact h3
  go_enter Try.func62, Try.ntmps62
  go_wp2_with (first
    | (refine wpl_zeros et60 rfl (.tmp 34) (.tmp 39) 3 .i64 Try.underlying3 rfl ⟨g, 0, none⟩ i cap rfl (L.length + 1 - i) ((L.length : Int) + 1 - (i : Int)) (by simp [Act.eval, Act.put]) (by omega) (L.length + 1) (by omega) (inE.cs (L.take i)) (by rw [Nat.mul_one]; exact HTK.out) hsrc0.out (by omega) (by omega) (by unfold maxLen; omega) (by omega) ?_; intro R G w1 hR hRt hG hGm hg1 hk1; rw [Nat.mul_one] at hR hRt; have HR := Lib.hid hR; have HRT := Lib.hid hRt; have HGM := Lib.hid hGm; unfold maxLen at hGm; have hGi : ¬ (G = i) := (by omega); have hGim : ¬ (G = i + 1) := (by omega); have hGc : (L.length : Int) + 1 ≤ G := (by omega); have hs1 := hk1.out.size; have HY1 := Lib.hid ((hk1.out.block vb hyl id).trans HY.out); have HRK : Hid (R.length = G) := hR; clear hR hRt)
    | (refine wpl_copyK et60 rfl (.tmp 43) (.tmp 44) rfl w.heap.size (i) (L.length + 1 - i) (G - i) ⟨vb, 0, none⟩ 1 1 (by simp [Act.eval, Act.put]) (by simp [Act.eval, Act.put]) _ 3 hg1.out 1 (by simp only [Nat.min_def]; split <;> omega) (inE.c y) rfl (fun j v hj => by rw [Addr.add_lit, Nat.zero_add, cell_block HY1.out]; simpa using hj) (by rw [HRK.out]; show i + 1 ≤ _; omega) (inE.one y) ?_; intro w2 hg2 hk2))
  have hcl2 : Hid ((splice R (i) (inE.c y)).length = G) := by
    unfold Hid; rw [length_splice _ _ _ (by rw [HRK.out]; show i + 1 ≤ _; omega)]; exact HRK.out
  have hsrc2 : Hid (∀ j v, (inE.cs (L.drop i))[j]? = some v → w2.cell? ((⟨g, i, none⟩ : Addr).add j) = some v) := fun j v hj =>
    (keep_cellA' hk2.out (b := ⟨g, i, none⟩) (show g < w1.heap.size by omega) (show g ≠ w.heap.size by omega)).trans ((keep_cellA' hk1.out (b := ⟨g, i, none⟩) hgl id).trans (hsrc.out j v hj))
  go_region_law (refine step_copyK et60 rfl (.tmp 50) (.tmp 53) (by rfl) w.heap.size ((i + 1)) (L.length + 1 - (i + 1)) (G - (i + 1)) ⟨g, i, none⟩ (L.length - i) (cap - i) (by simp [Act.eval, Act.put]) (by simp [Act.eval, Act.put]) _ 3 hg2.out (L.length - i) (by simp only [Nat.min_def]; split <;> omega) (inE.cs (L.drop i)) (by rw [Nat.mul_one]; exact HDR.out) hsrc2.out (by rw [HDR.out, hcl2.out]; omega) (inE.cs_one_cell _) ?_; intro w3 hg3 hk3)
  all_goals
    go_wp2
    go_ret
    exact ins_O_new hi hG HRK.out HRT.out HGM.out hB rfl hg3.out ((((hk1.out.mono (T := fun x => w.heap.size ≤ x) (fun _ _ h => h.elim)).trans (hk2.out.mono (T := fun x => w.heap.size ≤ x) (fun x _ h => by subst h; exact Nat.le_refl _))).drew.trans (hk3.out.mono (T := fun x => w.heap.size ≤ x) (fun x _ h => by subst h; exact Nat.le_refl _))).fresh (fun _ h => h) (Nat.le_refl _)) rfl

end Go.Proofs.Ytnjcchgbkemekaa
