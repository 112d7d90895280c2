/- slices.Insert's parts at rows of any number of cells an element: copy, the append of zeros, what the splices make. -/
import Derived.Test.YtmbgebmhdofdaaaLib
import Derived.Lib.AppendZerosOnto
import Derived.Lib.Overlaps
import Derived.Laws.CopyOwn
import Derived.Laws.NewBlocks
set_option linter.unusedVariables false
set_option linter.unusedSimpArgs false
namespace Go.Own
open Go.RowKit

section
variable {P : Program} {t e : TypeId} {z : Value} {k bytes : Nat}

/-- copy, as an equation. -/
theorem run_copyK (T : ET P t e z k bytes) (w : World) (t' ty : TypeId) (g off dLen dCap : Nat) (ad : Addr) (sLen sCap : Nat) (cur : List Value) (t0 : TypeId) (hg : w.heap[g]? = some (.cells cur.toArray t0 (0, 0)))
    (m : Nat) (hm : m = Nat.min sLen dLen) (cs : List Value) (hl : cs.length = m * k) (hsrc : ∀ j v, cs[j]? = some v → w.cell? (ad.add j) = some v) (hfit : off + cs.length ≤ cur.length) (h1 : ∀ v ∈ cs, v.oneCell' = true) :
    (Builtin.copy_ #[t, t'] ty #[.slice (some ⟨g, off, none⟩) dLen dCap, .slice (some ad) sLen sCap]).run P w = .ok (goInt m) (w.setRow g (splice cur off cs).toArray) := by
  obtain ⟨i, hi, hz0, hz1, hz2⟩ := info_parts T.hi
  have hf := run_firstCells_some (P := P) w k m ad sLen sCap cs hl hsrc
  have hst := run_storeCells_at P g off t0 cs 0 cur.toArray w hg (by simpa using hfit) h1
  simp only [Nat.add_zero] at hst
  simp [Builtin.copy_, run_underlying T.ht, Builtin.lenOf, sizeOf, typeInfo, hi, hz1, ← hm, hf, hst, splice]

theorem keep_setRow (w : World) (g : Nat) (cs : Array Value) : Keep (fun x => x = g) w (w.setRow g cs) :=
  ⟨rfl, rfl, rfl, by simp [World.setRow], fun k hk hs => setRow_other w g k cs hs⟩

theorem wp_copyK (T : ET P t e z k bytes) {w : World} {o : Oper} {a : Act} {Kk : Act → World → Prop} {Q : Exit → Act → World → Prop} (d s : Operand)
    (ho : o.op = .call { callee := .builtin .copy, args := #[d, s], argTypes := #[t, t] }) (g off dLen dCap : Nat) (ad : Addr) (sLen sCap : Nat) (hd : a.eval d = .slice (some ⟨g, off, none⟩) dLen dCap) (hs : a.eval s = .slice (some ad) sLen sCap)
    (cur : List Value) (t0 : TypeId) (hg : w.heap[g]? = some (.cells cur.toArray t0 (0, 0)))
    (m : Nat) (hm : m = Nat.min sLen dLen) (cs : List Value) (hl : cs.length = m * k) (hsrc : ∀ j v, cs[j]? = some v → w.cell? (ad.add j) = some v) (hfit : off + cs.length ≤ cur.length) (h1 : ∀ v ∈ cs, v.oneCell' = true)
    (K : ∀ w', Hid (w'.heap[g]? = some (.cells (splice cur off cs).toArray t0 (0, 0))) → Hid (Keep (fun x => x = g) w w') → Kk (a.put o.dst (goInt m)) w') : o.wp P a w Kk Q := by
  have hrun := run_copyK T w t o.type g off dLen dCap ad sLen sCap cur t0 hg m hm cs hl hsrc hfit h1
  unfold Oper.wp
  simp [execOp, ho, resolve, invoke, builtin, hd, hs, hrun, Result.andThen]
  exact K _ (setRow_heap w g _ _ t0 _ hg) (keep_setRow w g _)

theorem wpl_copyK (T : ET P t e z k bytes) {w : World} {ops : Array Oper} {rest : List Oper} {o : Oper} {a : Act} {Q : Exit → Act → World → Prop} (hgd : o.guard = none) (d s : Operand)
    (ho : o.op = .call { callee := .builtin .copy, args := #[d, s], argTypes := #[t, t] }) (g off dLen dCap : Nat) (ad : Addr) (sLen sCap : Nat) (hd : a.eval d = .slice (some ⟨g, off, none⟩) dLen dCap) (hs : a.eval s = .slice (some ad) sLen sCap)
    (cur : List Value) (t0 : TypeId) (hg : w.heap[g]? = some (.cells cur.toArray t0 (0, 0)))
    (m : Nat) (hm : m = Nat.min sLen dLen) (cs : List Value) (hl : cs.length = m * k) (hsrc : ∀ j v, cs[j]? = some v → w.cell? (ad.add j) = some v) (hfit : off + cs.length ≤ cur.length) (h1 : ∀ v ∈ cs, v.oneCell' = true)
    (K : ∀ w', Hid (w'.heap[g]? = some (.cells (splice cur off cs).toArray t0 (0, 0))) → Hid (Keep (fun x => x = g) w w') → wpList P ops Q rest (a.put o.dst (goInt m)) w') : wpList P ops Q (o :: rest) a w :=
  wpList_plain hgd fun _ hK => wp_copyK T d s ho g off dLen dCap ad sLen sCap hd hs cur t0 hg m hm cs hl hsrc hfit h1 fun w' h2 h3 => hK _ _ (K w' h2 h3)

theorem step_copyK (T : ET P t e z k bytes) {w : World} {ops : Array Oper} {o : Oper} {a : Act} {Kk : Act → World → Prop} {Q : Exit → Act → World → Prop} {E : Prop} (hgd : o.guard = none) (d s : Operand)
    (ho : o.op = .call { callee := .builtin .copy, args := #[d, s], argTypes := #[t, t] }) (g off dLen dCap : Nat) (ad : Addr) (sLen sCap : Nat) (hd : a.eval d = .slice (some ⟨g, off, none⟩) dLen dCap) (hs : a.eval s = .slice (some ad) sLen sCap)
    (cur : List Value) (t0 : TypeId) (hg : w.heap[g]? = some (.cells cur.toArray t0 (0, 0)))
    (m : Nat) (hm : m = Nat.min sLen dLen) (cs : List Value) (hl : cs.length = m * k) (hsrc : ∀ j v, cs[j]? = some v → w.cell? (ad.add j) = some v) (hfit : off + cs.length ≤ cur.length) (h1 : ∀ v ∈ cs, v.oneCell' = true)
    (K : ∀ w', Hid (w'.heap[g]? = some (.cells (splice cur off cs).toArray t0 (0, 0))) → Hid (Keep (fun x => x = g) w w') → Kk (a.put o.dst (goInt m)) w') :
    if Region.wanted o (yielded ops a.tmps) = true then Oper.wp P o a w Kk Q else E := by
  have hw : Region.wanted o (yielded ops a.tmps) = true := by simp [Region.wanted, hgd]
  rw [if_pos hw]
  exact wp_copyK T d s ho g off dLen dCap ad sLen sCap hd hs cur t0 hg m hm cs hl hsrc hfit h1 K

/-- append(s, make([]T, m)...) without room. -/
theorem wp_zeros (T : ET P t e z k bytes) {w : World} {o : Oper} {a : Act} {Kk : Act → World → Prop} {Q : Exit → Act → World → Prop} (s x : Operand) (tn : TypeId) (kn : IntKind) (htn : P.underlying tn = some (.int kn))
    (ho : o.op = .call { callee := .builtin .append, args := #[s, x], argTypes := #[t, tn] }) (ad : Addr) (i c : Nat) (hs : a.eval s = .slice (some ad) i c) (m : Nat) (M : Int) (hx : a.eval x = .int .i64 M) (hM : M = (m : Int)) (n : Nat) (hn : i + m = n)
    (A : List Value) (hA : A.length = i * k) (hsrc : ∀ j v, A[j]? = some v → w.cell? (ad.add j) = some v) (h0 : 0 < m) (hc : c < i + m) (h63 : i + m ≤ maxLen) (hby : (i + m) * bytes ≤ 140737488355328)
    (K : ∀ (R : List Value) (G : Nat) (w' : World), R.length = G * k → R.take (i * k) = A → n ≤ G → G ≤ maxLen → Hid (w'.heap[w.heap.size]? = some (.cells R.toArray e (0, 0))) → Hid (Keep (fun _ => False) w w') → Kk (a.put o.dst (.slice (some ⟨w.heap.size, 0, none⟩) n G)) w') : o.wp P a w Kk Q := by
  subst hM; subst hn
  obtain ⟨i0, hi, hz0, hz1, hz2⟩ := info_parts T.hi
  have hf := run_firstCells_some (P := P) w.drew k i ad i c A hA hsrc
  have hmk : m * bytes ≤ (i + m) * bytes := Nat.mul_le_mul_right _ (by omega)
  have hrun := Lib.run_append_grow_zeros (P := P) w t tn o.type e i0 z .i64 kn T.ht htn hi hz0 (some ad) i c A (by rw [hz1]; exact hf) m h0 (by rw [hz1]; exact T.hk) hc (by unfold maxLen at h63; omega) (by rw [hz2]; omega) (by rw [hz2]; exact growslice_fits hc hby)
  unfold Oper.wp
  simp [execOp, ho, resolve, invoke, builtin, hs, hx, hrun, Result.andThen]
  have hge := grownCap_ge w (i + m) c e
  refine K (A ++ (Builtin.zeroCells z.cells m).toList ++ (Builtin.zeroCells z.cells (grownCap w (i + m) c e - (i + m))).toList) _ _ ?_ ?_ hge (grownCap_le_maxLen w _ _ _ h63) ?_ (((Keep.refl _ _).drew).alloc _)
  · simp only [List.length_append, Array.length_toList, size_zeroCells, T.hz, hA, ← Nat.add_mul]
    congr 1; omega
  · rw [List.append_assoc, List.take_left' hA]
  · have h3 := heap_alloc_new w.drew (.cells (A.toArray ++ (Builtin.zeroCells z.cells m ++ Builtin.zeroCells z.cells (grownCap w (i + m) c e - (i + m)))) e)
    have e3 : (A ++ (Builtin.zeroCells z.cells m).toList ++ (Builtin.zeroCells z.cells (grownCap w (i + m) c e - (i + m))).toList).toArray = A.toArray ++ (Builtin.zeroCells z.cells m ++ Builtin.zeroCells z.cells (grownCap w (i + m) c e - (i + m))) := by
      simp
    rw [e3]
    exact h3

theorem wpl_zeros (T : ET P t e z k bytes) {w : World} {ops : Array Oper} {rest : List Oper} {o : Oper} {a : Act} {Q : Exit → Act → World → Prop} (hgd : o.guard = none) (s x : Operand) (tn : TypeId) (kn : IntKind) (htn : P.underlying tn = some (.int kn))
    (ho : o.op = .call { callee := .builtin .append, args := #[s, x], argTypes := #[t, tn] }) (ad : Addr) (i c : Nat) (hs : a.eval s = .slice (some ad) i c) (m : Nat) (M : Int) (hx : a.eval x = .int .i64 M) (hM : M = (m : Int)) (n : Nat) (hn : i + m = n)
    (A : List Value) (hA : A.length = i * k) (hsrc : ∀ j v, A[j]? = some v → w.cell? (ad.add j) = some v) (h0 : 0 < m) (hc : c < i + m) (h63 : i + m ≤ maxLen) (hby : (i + m) * bytes ≤ 140737488355328)
    (K : ∀ (R : List Value) (G : Nat) (w' : World), R.length = G * k → R.take (i * k) = A → n ≤ G → G ≤ maxLen → Hid (w'.heap[w.heap.size]? = some (.cells R.toArray e (0, 0))) → Hid (Keep (fun _ => False) w w') → wpList P ops Q rest (a.put o.dst (.slice (some ⟨w.heap.size, 0, none⟩) n G)) w') : wpList P ops Q (o :: rest) a w :=
  wpList_plain hgd fun _ hK => wp_zeros T s x tn kn htn ho ad i c hs m M hx hM n hn A hA hsrc h0 hc h63 hby fun R G w' h1 h2 h3 h4 h5 h6 => hK _ _ (K R G w' h1 h2 h3 h4 h5 h6)

theorem step_zeros (T : ET P t e z k bytes) {w : World} {ops : Array Oper} {o : Oper} {a : Act} {Kk : Act → World → Prop} {Q : Exit → Act → World → Prop} {E : Prop} (hgd : o.guard = none) (s x : Operand) (tn : TypeId) (kn : IntKind) (htn : P.underlying tn = some (.int kn))
    (ho : o.op = .call { callee := .builtin .append, args := #[s, x], argTypes := #[t, tn] }) (ad : Addr) (i c : Nat) (hs : a.eval s = .slice (some ad) i c) (m : Nat) (M : Int) (hx : a.eval x = .int .i64 M) (hM : M = (m : Int)) (n : Nat) (hn : i + m = n)
    (A : List Value) (hA : A.length = i * k) (hsrc : ∀ j v, A[j]? = some v → w.cell? (ad.add j) = some v) (h0 : 0 < m) (hc : c < i + m) (h63 : i + m ≤ maxLen) (hby : (i + m) * bytes ≤ 140737488355328)
    (K : ∀ (R : List Value) (G : Nat) (w' : World), R.length = G * k → R.take (i * k) = A → n ≤ G → G ≤ maxLen → Hid (w'.heap[w.heap.size]? = some (.cells R.toArray e (0, 0))) → Hid (Keep (fun _ => False) w w') → Kk (a.put o.dst (.slice (some ⟨w.heap.size, 0, none⟩) n G)) w') :
    if Region.wanted o (yielded ops a.tmps) = true then Oper.wp P o a w Kk Q else E := by
  have hw : Region.wanted o (yielded ops a.tmps) = true := by simp [Region.wanted, hgd]
  rw [if_pos hw]
  exact wp_zeros T s x tn kn htn ho ad i c hs m M hx hM n hn A hA hsrc h0 hc h63 hby K

/-- append, and where the row then lies. -/
theorem run_appF (T : ET P t e z k bytes) (w : World) (ty : TypeId) (B : Nat) (v : Value) (n : Nat) (xs : List Value) (hown : w.ownsRow B e k v n xs)
    (a : Addr) (m c : Nat) (news : List Value) (hl : news.length = m * k) (hnews : ∀ j u, news[j]? = some u → w.cell? (a.add j) = some u) (h1 : ∀ u ∈ news, u.oneCell' = true)
    (h63 : n + m ≤ maxLen) (hby : (n + m) * bytes ≤ 140737488355328) (hB : B ≤ w.heap.size) :
    ∃ v' w', (Builtin.append_ #[t, t] ty #[v, .slice (some a) m c]).run P w = .ok v' w' ∧ w'.ownsRow B e k v' (n + m) (xs ++ news) ∧ w.grownBy w' v.ownBlock ∧
      (∀ x, v'.ownBlock = some x → v.ownBlock = some x ∨ w.heap.size ≤ x) := by
  obtain ⟨i, hi, hz0, hz1, hz2⟩ := info_parts T.hi
  obtain ⟨v', w', hr, g1, g2, g3⟩ := run_append_own (P := P) w B t ty e i z k bytes T.ht hi hz0 hz1 hz2 T.hz T.hk v n xs hown a m c news hl hnews h1 h63 hby hB
  have hsmall : n + m ≤ 9223372036854775807 := by simp only [maxLen] at h63; omega
  subst hz1; subst hz2
  refine ⟨v', w', hr, g1, g2, fun x hx => ?_⟩
  rcases hown.2 with ⟨rfl, rfl⟩ | ⟨g, cap, cur, rfl, hbg, hg, hnc, hcm, hcs, htake⟩
  · by_cases hm : m = 0
    · rw [g3.mpr ⟨rfl, hm⟩] at hx; cases hx
    · have hr2 := run_append_nil (P := P) w t ty e i z T.ht hi hz0 a m c news hl hnews (by omega) (by omega) (by have hb := hby; simp only [Nat.zero_add] at hb; omega)
      rw [hr2] at hr
      injection hr with e1 e2
      subst e1
      right; simp [Value.ownBlock] at hx; omega
  · by_cases hroom : n + m ≤ cap
    · have hfit : n * i.size + news.length ≤ cur.size := by rw [hl, hcs, ← Nat.add_mul]; exact Nat.mul_le_mul_right _ hroom
      have hr2 := run_append_room (P := P) w t ty e i T.ht hi g n cap cur hg a m c news hl hnews h1 hroom hfit
      rw [hr2] at hr
      injection hr with e1 e2
      subst e1
      exact .inl hx
    · have holds : ∀ j u, xs[j]? = some u → w.cell? ((⟨g, 0, none⟩ : Addr).add j) = some u := hown.cells (g := g) rfl
      have hr2 := run_append_grow (P := P) w t ty e i z T.ht hi hz0 ⟨g, 0, none⟩ n cap xs hown.1 holds a m c news hl hnews (by omega) (by omega) (growslice_fits (by omega) hby)
      rw [hr2] at hr
      injection hr with e1 e2
      subst e1
      right; simp [Value.ownBlock] at hx; omega

theorem wp_appF (T : ET P t e z k bytes) {w : World} {o : Oper} {a : Act} {Kk : Act → World → Prop} {Q : Exit → Act → World → Prop} (s x : Operand)
    (ho : o.op = .call { callee := .builtin .append, args := #[s, x], argTypes := #[t, t] })
    (B : Nat) (v : Value) (n : Nat) (xs : List Value) (hs : a.eval s = v) (hown : w.ownsRow B e k v n xs)
    (ad : Addr) (m c : Nat) (cs : List Value) (hx : a.eval x = .slice (some ad) m c) (hl : cs.length = m * k) (hc : ∀ j u, cs[j]? = some u → w.cell? (ad.add j) = some u) (h1 : ∀ u ∈ cs, u.oneCell' = true)
    (h63 : n + m ≤ maxLen) (hby : (n + m) * bytes ≤ 140737488355328) (hB : B ≤ w.heap.size)
    (K : ∀ v' w', w'.ownsRow B e k v' (n + m) (xs ++ cs) → w.grownBy w' v.ownBlock → (∀ x, v'.ownBlock = some x → v.ownBlock = some x ∨ w.heap.size ≤ x) → Kk (a.put o.dst v') w') : o.wp P a w Kk Q := by
  obtain ⟨v', w', hr, g1, g2, g3⟩ := run_appF T w o.type B v n xs hown ad m c cs hl hc h1 h63 hby hB
  exact Lib.wp_append_run w s x t t ho v _ hs hx v' w' hr (K v' w' g1 g2 g3)

theorem wpl_appF (T : ET P t e z k bytes) {w : World} {ops : Array Oper} {rest : List Oper} {o : Oper} {a : Act} {Q : Exit → Act → World → Prop} (hgd : o.guard = none) (s x : Operand)
    (ho : o.op = .call { callee := .builtin .append, args := #[s, x], argTypes := #[t, t] })
    (B : Nat) (v : Value) (n : Nat) (xs : List Value) (hs : a.eval s = v) (hown : w.ownsRow B e k v n xs)
    (ad : Addr) (m c : Nat) (cs : List Value) (hx : a.eval x = .slice (some ad) m c) (hl : cs.length = m * k) (hc : ∀ j u, cs[j]? = some u → w.cell? (ad.add j) = some u) (h1 : ∀ u ∈ cs, u.oneCell' = true)
    (h63 : n + m ≤ maxLen) (hby : (n + m) * bytes ≤ 140737488355328) (hB : B ≤ w.heap.size)
    (K : ∀ v' w', w'.ownsRow B e k v' (n + m) (xs ++ cs) → w.grownBy w' v.ownBlock → (∀ x, v'.ownBlock = some x → v.ownBlock = some x ∨ w.heap.size ≤ x) → wpList P ops Q rest (a.put o.dst v') w') : wpList P ops Q (o :: rest) a w :=
  wpList_plain hgd fun _ hK => wp_appF T s x ho B v n xs hs hown ad m c cs hx hl hc h1 h63 hby hB fun v' w' h2 h3 h4 => hK _ _ (K v' w' h2 h3 h4)

theorem step_appF (T : ET P t e z k bytes) {w : World} {ops : Array Oper} {o : Oper} {a : Act} {Kk : Act → World → Prop} {Q : Exit → Act → World → Prop} {E : Prop} (hgd : o.guard = none) (s x : Operand)
    (ho : o.op = .call { callee := .builtin .append, args := #[s, x], argTypes := #[t, t] })
    (B : Nat) (v : Value) (n : Nat) (xs : List Value) (hs : a.eval s = v) (hown : w.ownsRow B e k v n xs)
    (ad : Addr) (m c : Nat) (cs : List Value) (hx : a.eval x = .slice (some ad) m c) (hl : cs.length = m * k) (hc : ∀ j u, cs[j]? = some u → w.cell? (ad.add j) = some u) (h1 : ∀ u ∈ cs, u.oneCell' = true)
    (h63 : n + m ≤ maxLen) (hby : (n + m) * bytes ≤ 140737488355328) (hB : B ≤ w.heap.size)
    (K : ∀ v' w', w'.ownsRow B e k v' (n + m) (xs ++ cs) → w.grownBy w' v.ownBlock → (∀ x, v'.ownBlock = some x → v.ownBlock = some x ∨ w.heap.size ≤ x) → Kk (a.put o.dst v') w') :
    if Region.wanted o (yielded ops a.tmps) = true then Oper.wp P o a w Kk Q else E := by
  have hw : Region.wanted o (yielded ops a.tmps) = true := by simp [Region.wanted, hgd]
  rw [if_pos hw]
  exact wp_appF T s x ho B v n xs hs hown ad m c cs hx hl hc h1 h63 hby hB K

/-- .. of whatever can be read. -/
theorem wp_appG (T : ET P t e z k bytes) {w : World} {o : Oper} {a : Act} {Kk : Act → World → Prop} {Q : Exit → Act → World → Prop} (s x : Operand)
    (ho : o.op = .call { callee := .builtin .append, args := #[s, x], argTypes := #[t, t] })
    (B : Nat) (v : Value) (n : Nat) (xs : List Value) (hs : a.eval s = v) (hown : w.ownsRow B e k v n xs)
    (vx : Value) (m : Nat) (cs : List Value) (hx : a.eval x = vx) (hr : Reads w vx m k cs) (h1 : ∀ u ∈ cs, u.oneCell' = true)
    (h63 : n + m ≤ maxLen) (hby : (n + m) * bytes ≤ 140737488355328) (hB : B ≤ w.heap.size)
    (K : ∀ v' w', w'.ownsRow B e k v' (n + m) (xs ++ cs) → w.grownBy w' v.ownBlock → (∀ x, v'.ownBlock = some x → v.ownBlock = some x ∨ w.heap.size ≤ x) → Kk (a.put o.dst v') w') : o.wp P a w Kk Q := by
  obtain ⟨i, hi, hz0, hz1, hz2⟩ := info_parts T.hi
  rcases hr with ⟨hl, ⟨rfl, rfl⟩ | ⟨ad, c, rfl, hc⟩⟩
  · have e0 : cs = [] := List.eq_nil_of_length_eq_zero (by simpa using hl)
    subst e0
    have hrun := run_append_owned_none (P := P) (w := w) B t o.type e i k T.ht hi v n xs hown
    unfold Oper.wp
    simp [execOp, ho, resolve, invoke, builtin, hs, hx, hrun, Result.andThen]
    exact K _ _ (by simpa using hown) ⟨rfl, rfl, rfl, Nat.le_refl _, fun _ _ _ => rfl⟩ (fun _ h => .inl h)
  · exact wp_appF T s x ho B v n xs hs hown ad m c cs hx hl hc h1 h63 hby hB K
theorem wpl_appG (T : ET P t e z k bytes) {w : World} {ops : Array Oper} {rest : List Oper} {o : Oper} {a : Act} {Q : Exit → Act → World → Prop} (hgd : o.guard = none) (s x : Operand)
    (ho : o.op = .call { callee := .builtin .append, args := #[s, x], argTypes := #[t, t] })
    (B : Nat) (v : Value) (n : Nat) (xs : List Value) (hs : a.eval s = v) (hown : w.ownsRow B e k v n xs)
    (vx : Value) (m : Nat) (cs : List Value) (hx : a.eval x = vx) (hr : Reads w vx m k cs) (h1 : ∀ u ∈ cs, u.oneCell' = true)
    (h63 : n + m ≤ maxLen) (hby : (n + m) * bytes ≤ 140737488355328) (hB : B ≤ w.heap.size)
    (K : ∀ v' w', w'.ownsRow B e k v' (n + m) (xs ++ cs) → w.grownBy w' v.ownBlock → (∀ x, v'.ownBlock = some x → v.ownBlock = some x ∨ w.heap.size ≤ x) → wpList P ops Q rest (a.put o.dst v') w') : wpList P ops Q (o :: rest) a w :=
  wpList_plain hgd fun _ hK => wp_appG T s x ho B v n xs hs hown vx m cs hx hr h1 h63 hby hB fun v' w' h2 h3 h4 => hK _ _ (K v' w' h2 h3 h4)

/-- A block whose cells are known, read cell by cell. -/
theorem new_cells {w : World} {b : Nat} {cs : List Value} {e : TypeId} {fz : Nat × Nat} (h : w.heap[b]? = some (.cells cs.toArray e fz)) : ∀ j u, cs[j]? = some u → w.cell? ((⟨b, 0, none⟩ : Addr).add j) = some u := by
  intro j u hj
  rw [Addr.add_lit, Nat.zero_add, cell_block h]; simpa using hj

/-- slices.overlaps of two slices in two blocks, of which none is frozen. -/
theorem overlaps_apart (T : ET P t e z k bytes) (w : World) (tR : TypeId) (a b : Addr) (la ca lb cb : Nat) (hne : a.block ≠ b.block) {ca' cb' : Array Value} {ea eb : TypeId}
    (ha : w.heap[a.block]? = some (.cells ca' ea (0, 0))) (hb : w.heap[b.block]? = some (.cells cb' eb (0, 0))) (h0 : cb'.size ≠ 0) :
    (Extern.SlicesOverlaps.overlaps #[t, t] #[tR] #[.slice (some a) la ca, .slice (some b) lb cb]).run P w = .ok (.bool false) w := by
  obtain ⟨e1, e2⟩ := T.elem
  refine Lib.run_overlaps_apart w t tR e T.ht k e2 a b la ca lb cb hne ea eb ca'.size cb'.size ?_ ?_ h0 ?_ ?_
  · simp [World.shape?, ha]
  · simp [World.shape?, hb]
  · simp [World.frozen?, ha]
  · simp [World.frozen?, ha]

end

/-! ### What the splices make -/
theorem splice_take {α : Type} (L : List α) (off : Nat) (cs : List α) (h : off ≤ L.length) : (splice L off cs).take (off + cs.length) = L.take off ++ cs := by
  have e : (L.take off).length = off := by rw [List.length_take]; omega
  unfold splice
  rw [← List.append_assoc, List.take_append_of_le_length (by simp [e]), List.take_of_length_le (by simp [e])]
theorem splice_take_lt {α : Type} (L : List α) (off n : Nat) (cs : List α) (h : off ≤ L.length) (hn : n ≤ off) : (splice L off cs).take n = L.take n := by
  have e : (L.take off).length = off := by rw [List.length_take]; omega
  unfold splice
  rw [List.take_append_of_le_length (by omega), List.take_take, Nat.min_eq_left hn]
/-- In place: what lies behind goes up, then the new one. -/
theorem ins_place {α : Type} (cur A Y D : List α) (h : cur.take (A.length + D.length) = A ++ D) (hl : A.length + Y.length + D.length ≤ cur.length) :
    (splice (splice cur (A.length + Y.length) D) A.length Y).take (A.length + Y.length + D.length) = A ++ Y ++ D := by
  have hA : cur.take A.length = A := by
    have := congrArg (List.take A.length) h
    rw [List.take_take, Nat.min_eq_left (by omega), List.take_left' rfl] at this
    exact this
  have hc1 : (splice cur (A.length + Y.length) D).length = cur.length := length_splice _ _ _ hl
  have h2 : (splice cur (A.length + Y.length) D).take (A.length + Y.length + D.length) = cur.take (A.length + Y.length) ++ D := splice_take _ _ _ (by omega)
  have h3 : (splice cur (A.length + Y.length) D).take A.length = A := by rw [splice_take_lt _ _ _ _ (by omega) (by omega), hA]
  have h4 : ((splice cur (A.length + Y.length) D).drop (A.length + Y.length)).take D.length = D := by
    have := congrArg (List.drop (A.length + Y.length)) h2
    rw [List.drop_take, List.drop_left' (by rw [List.length_take]; omega), show A.length + Y.length + D.length - (A.length + Y.length) = D.length by omega] at this
    exact this
  generalize splice cur (A.length + Y.length) D = M at *
  unfold splice
  rw [h3, List.append_assoc, List.take_append, List.take_of_length_le (by omega), List.append_cancel_left_eq, List.take_append, List.take_of_length_le (by omega), List.append_cancel_left_eq]
  rw [show A.length + Y.length + D.length - A.length - Y.length = D.length by omega]
  exact h4
/-- In a new row. -/
theorem ins_new {α : Type} (R A Y D : List α) (h : R.take A.length = A) (hl : A.length + Y.length + D.length ≤ R.length) :
    (splice (splice R A.length Y) (A.length + Y.length) D).take (A.length + Y.length + D.length) = A ++ Y ++ D := by
  have hc1 : (splice R A.length Y).length = R.length := length_splice _ _ _ (by omega)
  rw [splice_take _ _ _ (by omega), splice_take _ _ _ (by omega), h]

/-- A list with one more at i. -/
def insAt {α : Type} (L : List α) (i : Nat) (y : α) : List α := L.take i ++ y :: L.drop i
theorem insAt_length {α : Type} (L : List α) {i : Nat} (hi : i ≤ L.length) (y : α) : (insAt L i y).length = L.length + 1 := by simp [insAt]; omega

section
variable {α : Type} {E : Enc α} {w : World} {B : Nat} {e : TypeId}
/-- Own rows, seen as a block. -/
theorem OwnL.block {g cap n : Nat} {L : List α} (h : OwnL E w B e (.slice (some ⟨g, 0, none⟩) n cap) L) :
    ∃ cur : List Value, n = L.length ∧ w.heap[g]? = some (.cells cur.toArray e (0, 0)) ∧ n ≤ cap ∧ cap ≤ maxLen ∧ cur.length = cap * E.k ∧ cur.take (L.length * E.k) = E.cs L ∧ B ≤ g := by
  rcases h.2 with ⟨h', _⟩ | ⟨g', cap', cur, h', hB, hg, hc, hm, hcs, htake⟩
  · simp at h'
  · simp only [Value.slice.injEq, Option.some.injEq, Addr.mk.injEq, and_true, true_and] at h'
    obtain ⟨rfl, rfl, rfl⟩ := h'
    exact ⟨cur.toList, rfl, by simpa using hg, hc, hm, by simpa using hcs, htake, hB⟩
theorem OwnL.of_block {g cap n : Nat} {L : List α} {cur : List Value} (hg : w.heap[g]? = some (.cells cur.toArray e (0, 0))) (hn : n = L.length) (hc : n ≤ cap) (hm : cap ≤ maxLen) (hl : cur.length = cap * E.k) (ht : cur.take (L.length * E.k) = E.cs L) (hB : B ≤ g) :
    OwnL E w B e (.slice (some ⟨g, 0, none⟩) n cap) L := by
  subst hn
  exact ⟨by rw [E.cs_length], .inr ⟨g, cap, cur.toArray, rfl, hB, hg, hc, hm, by simpa using hl, by simpa using ht⟩⟩
theorem cs_ins (L : List α) (i : Nat) (y : α) : E.cs (insAt L i y) = E.cs (L.take i) ++ E.c y ++ E.cs (L.drop i) := by
  unfold insAt
  rw [show L.take i ++ y :: L.drop i = L.take i ++ ([y] ++ L.drop i) by simp, E.cs_append, E.cs_append, E.cs_one, List.append_assoc]
end
end Go.Own
