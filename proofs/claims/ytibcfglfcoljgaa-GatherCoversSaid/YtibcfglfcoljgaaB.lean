/- Gather: Pages, Frames. -/
import Derived.Test.YtibcfglfcoljgaaA
set_option linter.unusedVariables false
set_option linter.unusedSimpArgs false
namespace Go.Proofs.Ytibcfglfcoljgaa
open Go.RowKit Go.Own

section
variable {α : Type} {E : Enc α} {w : World} {B : Nat} {P : Program} {t e : TypeId} {z : Value} {bytes : Nat} {v : Value} {L : List α}
/-- v[:len(v):len(v)]. -/
theorem sl_full (T : ET P t e z E.k bytes) (h : OwnL E w B e v L) :
    ∃ ao : Option Addr, (∀ W, (Instr.slice t v none (some (.int .i64 (L.length : Int))) (some (.int .i64 (L.length : Int)))).run P W = .ok (.slice ao L.length L.length) W) ∧ (ao = none → L.length = 0 ∧ L.length = 0) ∧
      (∀ b, ao = some b → b.block < w.heap.size ∧ v.ownBlock = some b.block ∧ ∀ j x, (E.cs L)[j]? = some x → w.cell? (b.add j) = some x) := by
  obtain ⟨e1, e2⟩ := T.elem
  have hu : P.underlying t = some (.slice (P.elem t)) := by rw [e1]; exact T.ht
  rcases h.any with ⟨rfl, rfl⟩ | ⟨g, cap, rfl, hB, hc, hm, hg⟩
  · refine ⟨none, fun W => ?_, (fun _ => ⟨rfl, rfl⟩), (fun b hb => nomatch hb)⟩
    rw [run_slice_hm W t none 0 0 hu .i64 .i64 _ _ (by omega) (by omega) (by simp), e1, e2]; simp [sliced, Result.andThen]
  · refine ⟨some ⟨g, 0, none⟩, fun W => ?_, (fun h => nomatch h), fun b hb => ?_⟩
    · rw [run_slice_hm W t _ _ _ hu .i64 .i64 _ _ (by omega) (by omega) (by omega), e1, e2]
      simp only [sliced, Result.andThen, Int.toNat_natCast]
      split <;> simp [Addr.add]
    · obtain rfl : (⟨g, 0, none⟩ : Addr) = b := by simpa using hb
      refine ⟨hg, rfl, fun j x hj => World.ownsRow.cells h rfl j x hj⟩
end

theorem row_new {W : World} {e : TypeId} {cs : List Value} (j : Nat) (y : Value) (h : cs[j]? = some y) : (W.alloc (.cells cs.toArray e)).cell? ((⟨W.heap.size, 0, none⟩ : Addr).add j) = some y := by
  rw [Addr.add_lit, Nat.zero_add, cell_block (heap_alloc_new W _)]; simpa using h
theorem cells3 {w : World} {b e : Nat} {x0 x1 x2 : Value} {z : Nat × Nat} (hb : w.heap[b]? = some (.cells #[x0, x1, x2] e z)) :
    w.cell? ⟨b, 0, none⟩ = some x0 ∧ w.cell? ⟨b, 1, none⟩ = some x1 ∧ w.cell? ⟨b, 2, none⟩ = some x2 := by simp [cell_block hb]
theorem cells2 {w : World} {b e : Nat} {x0 x1 : Value} {z : Nat × Nat} (hb : w.heap[b]? = some (.cells #[x0, x1] e z)) :
    w.cell? ⟨b, 0, none⟩ = some x0 ∧ w.cell? ⟨b, 1, none⟩ = some x1 := by simp [cell_block hb]

/-- The object gets other pages. -/
theorem putP {w w2 : World} {B p n : Nat} {v u : Value} {L L' : List Fl} {Q : List Bk} {r : Int} {a2 : Option Addr} {l2 c2 : Nat} {xs : List Value} (hR : RepG w B p v u L Q r) (hB : B ≤ w.heap.size) (hl : L'.length ≤ 200)
    (HK2 : Keep (fun _ => False) w w2) (HO2 : w2.ownsRow w.heap.size 40 flE.k (.slice a2 l2 c2) n xs) (hn : n = L'.length) (hxs : xs = flE.cs L') :
    RepG (w2.setCell ⟨p, 1, none⟩ (.slice a2 l2 c2)) B p (.slice a2 l2 c2) u L' Q r ∧ Keep (fun x => x = p) w (w2.setCell ⟨p, 1, none⟩ (.slice a2 l2 c2)) := by
  subst hn; subst hxs
  have hpl := block_lt hR.hp
  have hO : OwnL flE w2 B 40 (.slice a2 l2 c2) L' := ownsRow_base HO2 (C := B) (fun x hx => by have := (HO2.lt x hx).1; omega)
  have hlt2 := HO2.lt
  have KP := (Keep.refl (fun x => x = p) w2).setCell (p := ⟨p, 1, none⟩) (fun _ => rfl) (.slice a2 l2 c2)
  refine ⟨⟨?_, ?_, ?_, ?_, hR.nu, ?_, hl, hR.hq⟩, (HK2.mono (T := fun x => x = p) (fun _ _ h => h.elim)).setCell (fun _ => rfl) _⟩
  · rw [heap_setCell_eq ((HK2.block p hpl id).trans hR.hp)]; simp
  · exact hO.keep KP (fun x hx => by have := (hlt2 x hx).1; omega)
  · exact (hR.hu.keep HK2 (fun _ _ => id)).keep KP (fun x hx e => hR.nu (e ▸ hx))
  · intro e; have := (hlt2 p e).1; omega
  · intro x hx e; have := (hlt2 x hx).1; have := (hR.hu.lt x e).2; omega
/-- The object gets other blocks. -/
theorem putB {w w2 : World} {B p n : Nat} {v u : Value} {L : List Fl} {Q Q' : List Bk} {r : Int} {a2 : Option Addr} {l2 c2 : Nat} {xs : List Value} (hR : RepG w B p v u L Q r) (hB : B ≤ w.heap.size) (hl : Q'.length ≤ 200)
    (HK2 : Keep (fun _ => False) w w2) (HO2 : w2.ownsRow w.heap.size 48 bkE.k (.slice a2 l2 c2) n xs) (hn : n = Q'.length) (hxs : xs = bkE.cs Q') :
    RepG (w2.setCell ⟨p, 2, none⟩ (.slice a2 l2 c2)) B p v (.slice a2 l2 c2) L Q' r ∧ Keep (fun x => x = p) w (w2.setCell ⟨p, 2, none⟩ (.slice a2 l2 c2)) := by
  subst hn; subst hxs
  have hpl := block_lt hR.hp
  have hO : OwnL bkE w2 B 48 (.slice a2 l2 c2) Q' := ownsRow_base HO2 (C := B) (fun x hx => by have := (HO2.lt x hx).1; omega)
  have hlt2 := HO2.lt
  have KP := (Keep.refl (fun x => x = p) w2).setCell (p := ⟨p, 2, none⟩) (fun _ => rfl) (.slice a2 l2 c2)
  refine ⟨⟨?_, ?_, ?_, hR.nv, ?_, ?_, hR.hl, hl⟩, (HK2.mono (T := fun x => x = p) (fun _ _ h => h.elim)).setCell (fun _ => rfl) _⟩
  · rw [heap_setCell_eq ((HK2.block p hpl id).trans hR.hp)]; simp
  · exact (hR.hv.keep HK2 (fun _ _ => id)).keep KP (fun x hx e => hR.nv (e ▸ hx))
  · exact hO.keep KP (fun x hx => by have := (hlt2 x hx).1; omega)
  · intro e; have := (hlt2 p e).1; omega
  · intro x hx e; have := (hlt2 x e).1; have := (hR.hv.lt x hx).2; omega

set_option maxHeartbeats 1000000 in
theorem pages_first (B p : Nat) (v u : Value) (w : World) (hB : B ≤ w.heap.size) (hR : RepG w B p v u [] [] 0) :
    Calls Try.prog 17 #[.pointer (some ⟨p, 0, none⟩), .int .i64 0, .int .i64 8, .int .i64 2] w fun e w' => ∃ v', e = .returned (.int .i64 0) ∧ RepG w' B p v' u [⟨0, 8, 2⟩] [] 0 ∧ Keep (fun z => z = p) w w' := by
  obtain ⟨a, c, rfl, -⟩ := hR.hv.slice
  have K1 : Hid (Keep (fun _ => False) w ((w.alloc (.cells #[.int .i64 0] 3)).alloc (.cells #[.int .i64 0, .int .i64 8, .int .i64 2] 40))) := ((Keep.refl _ _).alloc _).alloc _
  have HR1 := Lib.hid (hR.keep0 K1.out)
  have HN := Lib.hid (cells3 (heap_alloc_new (w.alloc (.cells #[.int .i64 0] 3)) (.cells #[.int .i64 0, .int .i64 8, .int .i64 2] 40)))
  obtain ⟨c0, c1, c2, c3⟩ := HR1.out.cs
  go_enter Try.func17, Try.ntmps17
  go_wp2
  refine wp_loop_once ?_
  obtain ⟨wa, hwa⟩ : ∃ z, (w.alloc (.cells #[.int .i64 0] 3)).alloc (.cells #[.int .i64 0, .int .i64 8, .int .i64 2] 40) = z := ⟨_, rfl⟩
  rw [hwa] at K1 HR1 HN c0 c1 c2 c3 ⊢
  have hn5 := World.size_alloc w (.cells #[.int .i64 0] 3)
  rw [hn5] at HN
  clear hn5
  obtain ⟨n0, n1, n2⟩ := HN.out
  have hpl := block_lt HR1.out.hp
  have fz : wa.frozen? ⟨p, 1, none⟩ = false := frozen_block HR1.out.hp
  have hs1 := K1.out.size
  go_wp2_with (at_builtin; go_loud (refine wpl_app et28 rfl (.tmp 85) (.tmp 87) rfl wa.heap.size (.slice none 0 0) 0 [] rfl (World.ownsRow_nil _ _ _ _) (.slice (some ⟨wa.heap.size, 0, none⟩) 1 1) 1 [.int .i64 0, .int .i64 8, .int .i64 2] rfl (Reads.new (heap_alloc_new wa _) rfl 1) (by simp [Value.oneCell']) (by unfold maxLen; omega) (by omega) (by simp) ?_; intro v5 w5 hown5 hgrow5; obtain ⟨a5, l5, c5, rfl⟩ := own_slice hown5; have HK5 : Hid (Keep (fun _ => False) wa w5) := Keep.grown (by (repeat (first | exact Keep.refl _ _ | exact Keep.refl _ _ | refine Keep.drew ?_ | refine Keep.drewN ?_ _ | refine Keep.alloc ?_ _ | refine Keep.setNew ?_ (by omega) _)); done) hgrow5 (fun x h1 h2 => by simp [Value.ownBlock] at h1); obtain ⟨hz1, hz2⟩ := keepS2 HK5.out hpl id c1 fz; have HO5 := Lib.hid hown5; clear hown5 hgrow5))
  have hq := putP (L' := [⟨0, 8, 2⟩]) HR1.out (by omega) (by simp) HK5.out HO5.out rfl rfl
  go_ret
  first | exact ⟨rfl, _, hq.1, (K1.out.mono (fun _ _ h => h.elim)).trans hq.2⟩ | exact ⟨_, rfl, hq.1, (K1.out.mono (fun _ _ h => h.elim)).trans hq.2⟩

end Go.Proofs.Ytibcfglfcoljgaa
