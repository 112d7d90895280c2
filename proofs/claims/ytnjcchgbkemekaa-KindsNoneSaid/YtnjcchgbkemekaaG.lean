/- Buddy: carve. -/
import Derived.Test.YtnjcchgbkemekaaF
set_option linter.unusedVariables false
set_option linter.unusedSimpArgs false
namespace Go.Proofs.Ytnjcchgbkemekaa
open Go.RowKit Go.Own

theorem fr_sub (fr : Int) (P : Nat) (h : -1000 ≤ fr ∧ fr ≤ 90000) (h1 : P ≤ 256) : IntKind.i64.wrap (fr - (P : Int)) = fr - (P : Int) ∧ -100000 ≤ fr - (P : Int) ∧ fr - (P : Int) ≤ 100000 := ⟨IntWalk.i64_in _ (by omega), by omega, by omega⟩
/-- What carve has done. -/
def CarveC (w : World) (B p n : Nat) (F : Nat → Bool) (o f : Nat) (fr : Int) (G : Nat → Prop) (e : Ending) (w' : World) : Prop :=
  e = .returned (.tuple #[]) ∧ ∃ S', BS w' B p n S' (fr - (2 ^ o : Nat)) (fun x => G x ∨ w.heap.size ≤ x) ∧ Rp S' (subB F o f) ∧ Keep (fun z => z = p ∨ G z) w w'

theorem bs_free {w w' : World} {B p n : Nat} {S : Nat → Nat → Bool} {fr fr' : Int} {G : Nat → Prop} (h : BS w B p n S fr G) (hf : -100000 ≤ fr' ∧ fr' ≤ 100000) (K : Keep (fun _ => False) w w') :
    BS (w'.setCell ⟨p, 10, none⟩ (.int .i64 fr')) B p n S fr' G ∧ Keep (fun z => z = p) w (w'.setCell ⟨p, 10, none⟩ (.int .i64 fr')) := by
  obtain ⟨V, h1, h2⟩ := h
  have h3 := h1.keep0 K
  have KP := (Keep.refl (fun z => z = p) w').setCell (p := ⟨p, 10, none⟩) (fun _ => rfl) (.int .i64 fr')
  refine ⟨⟨V, ⟨?_, fun j hj => (h3.hv j hj).keep KP (h3.np hj), h1.ap, h1.hn, hf⟩, h2⟩, (K.mono (fun _ _ h => h.elim)).trans KP⟩
  rw [heap_setCell_eq h3.hp]; rfl

theorem BS.lt {w : World} {B p n : Nat} {S : Nat → Nat → Bool} {fr : Int} {G : Nat → Prop} (h : BS w B p n S fr G) : BS w B p n S fr (fun x => G x ∧ x < w.heap.size) := by
  obtain ⟨V, h1, h2⟩ := h
  exact ⟨V, h1, fun j hj x hx => ⟨h2 j hj x hx, ((h1.hv j hj).lt x hx).2⟩⟩
/-- Rows that are neither of the boxes. -/
def Gx (G : Nat → Prop) (A n1 n2 n3 : Nat) (x : Nat) : Prop := G x ∨ (A ≤ x ∧ x ≠ n1 ∧ x ≠ n2 ∧ x ≠ n3)

set_option maxRecDepth 100000 in
set_option maxHeartbeats 4000000 in
theorem carve_any {w : World} {B p n K b o f : Nat} {S : Nat → Nat → Bool} {F : Nat → Bool} {fr : Int} {G : Nat → Prop} (hB : B ≤ w.heap.size) (h : BS w B p n S fr G) (hR : Rp S F) (hm : mx F K b) (ho : o ≤ K) (hfo : f % 2 ^ o = 0) (hf1 : b ≤ f) (hf2 : f + 2 ^ o ≤ b + 2 ^ K)
    (hF : ∀ i, F i = true → i < n) (hG : ∀ x, G x → x < w.heap.size) (hfr : -1000 ≤ fr ∧ fr ≤ 90000) :
    Calls Try.prog 51 #[.pointer (some ⟨p, 0, none⟩), .agg #[.int .i64 (b : Int), .int .i64 (K : Int)], .int .i64 (f : Int), .int .i64 (o : Int)] w (CarveC w B p n F o f fr G) := by
  have hK8 := hm.1
  have hpl : p < w.heap.size := by obtain ⟨V, h1, _⟩ := h; exact block_lt h1.hp
  have hn1024 : n ≤ 1024 := by obtain ⟨V, h1, _⟩ := h; exact h1.hn
  have hpo := p2 o
  have hfn : f < n := hF f (hm.2.2.1 f hf1 (by omega))
  have hbn : b < n := by omega
  have hSb : S K b = true := (hR K b hK8).mpr hm
  have hdK : dn K f = b := by
    have q1 := dn_le K f
    have q2 := dn_lt K f
    rcases dy (Nat.le_refl K) (dn_mod K f) hm.2.1 with h' | h' <;> omega
  have hdo : dn o f = f := dn_self hfo
  have HB := Lib.hid h
  have HR0 := Lib.hid (rp_drop hR hm)
  have HBL := Lib.hid hm.2.2.1
  have HFF := Lib.hid hF
  have HG := Lib.hid hG
  have hpo2 := pw o (by omega)
  obtain ⟨z1, z2⟩ := pw_w o (by omega)
  have HDK := Lib.hid hdK
  have HDO := Lib.hid hdo
  have hKz : (0 : Int) ≤ (K : Int) := Int.natCast_nonneg K
  have hw1 : IntKind.i64.wrap ((K : Int) - 1) = (K : Int) - 1 := IntWalk.i64_in _ (by omega)
  have HSB := Lib.hid hSb
  have K1 : Hid (Keep (fun _ => False) w (((w.alloc (.cells #[.pointer (some ⟨p, 0, none⟩)] 67)).alloc (.cells #[.int .i64 (b : Int), .int .i64 (K : Int)] 49)).alloc (.cells #[.int .i64 (f : Int)] 3))) := (((Keep.refl _ _).alloc _).alloc _).alloc _
  clear h hR hm hfo hf1 hf2 hF hG hdK hdo hSb
  go_enter Try.func51, Try.ntmps51
  go_wp2_with fail
  obtain ⟨w1, hw1'⟩ : ∃ w1, ((w.alloc (.cells #[.pointer (some ⟨p, 0, none⟩)] 67)).alloc (.cells #[.int .i64 (b : Int), .int .i64 (K : Int)] 49)).alloc (.cells #[.int .i64 (f : Int)] 3) = w1 := ⟨_, rfl⟩
  have hx3 : w1.heap[w.heap.size]? = some (.cells #[.pointer (some ⟨p, 0, none⟩)] 67 (0, 0)) := by
    rw [← hw1', heap_alloc_at, World.size_alloc, World.size_alloc, if_neg (by omega), heap_alloc_at, World.size_alloc, if_neg (by omega)]; exact heap_alloc_new w _
  have hxb : w1.heap[w.heap.size + 1]? = some (.cells #[.int .i64 (b : Int), .int .i64 (K : Int)] 49 (0, 0)) := by
    rw [← hw1', heap_alloc_at, World.size_alloc, World.size_alloc, if_neg (by omega)]
    have := heap_alloc_new (w.alloc (.cells #[.pointer (some ⟨p, 0, none⟩)] 67)) (.cells #[.int .i64 (b : Int), .int .i64 (K : Int)] 49)
    rw [World.size_alloc] at this; exact this
  have hx1 : w1.heap[w.heap.size + 1 + 1]? = some (.cells #[.int .i64 (f : Int)] 3 (0, 0)) := by
    rw [← hw1']
    have := heap_alloc_new ((w.alloc (.cells #[.pointer (some ⟨p, 0, none⟩)] 67)).alloc (.cells #[.int .i64 (b : Int), .int .i64 (K : Int)] 49)) (.cells #[.int .i64 (f : Int)] 3)
    rw [World.size_alloc, World.size_alloc] at this; exact this
  have hsz1 : w1.heap.size = w.heap.size + 3 := by rw [← hw1', World.size_alloc, World.size_alloc, World.size_alloc]
  rw [hw1'] at K1 ⊢
  clear hw1'
  have HB1 := Lib.hid (HB.out.keep0 K1.out)
  refine (drop_any (Nat.le_trans hB K1.out.size) HB1.out hK8 hbn HSB.out).mono ?_
  rintro e w5 ⟨rfl, hb5, hk5⟩
  obtain ⟨n0, hn0⟩ : ∃ n0, w.heap.size = n0 := ⟨_, rfl⟩
  have HN0 := Lib.hid hn0
  have hGn : ∀ z, n0 ≤ z → ¬ (z = p ∨ G z) := fun z hz hh => by
    rcases hh with hh | hh
    · omega
    · have := HG.out z hh; omega
  have HGN := Lib.hid hGn
  rw [hn0] at hx3 hxb hx1 hsz1 ⊢
  have y3 := (hk5.block n0 (block_lt hx3) (hGn _ (by omega))).trans hx3
  have yb := (hk5.block (n0 + 1) (block_lt hxb) (hGn _ (by omega))).trans hxb
  have y1 := (hk5.block (n0 + 1 + 1) (block_lt hx1) (hGn _ (by omega))).trans hx1
  have HK5 := Lib.hid hk5
  have hs5 := hk5.size
  have c0 : w5.cell? ⟨n0 + 1, 0, none⟩ = some (.int .i64 (b : Int)) := by simp [cell_block yb]
  have c1 : w5.cell? ⟨n0 + 1, 1, none⟩ = some (.int .i64 (K : Int)) := by simp [cell_block yb]
  have HXX : Hid (Bx (w5.alloc (.cells #[.int .i64 (b : Int)] 3)) (n0 + 1 + 1) w5.heap.size n0 p f b ∧ BS (w5.alloc (.cells #[.int .i64 (b : Int)] 3)) B p n (dropS S K b) fr (Gx G n0 (n0 + 1 + 1) w5.heap.size n0) ∧ Keep (fun z => z = p ∨ G z ∨ n0 ≤ z) w (w5.alloc (.cells #[.int .i64 (b : Int)] 3))) := by
    have KA : Keep (fun _ => False) w5 (w5.alloc (.cells #[.int .i64 (b : Int)] 3)) := (Keep.refl _ _).alloc _
    refine ⟨⟨(KA.block _ (block_lt y1) id).trans y1, heap_alloc_new w5 _, (KA.block _ (block_lt y3) id).trans y3⟩, (hb5.lt.keep0 KA).mono fun x hx => ?_, ((K1.out.mono (fun _ _ h => h.elim)).trans (hk5.mono fun z _ h => h.imp id .inl)).trans (KA.mono fun _ _ h => h.elim)⟩
    rcases hx with ⟨hx | hx, hx2⟩
    · exact .inl hx
    · exact .inr ⟨by omega, by omega, by omega, by omega⟩
  have yb2 : (w5.alloc (.cells #[.int .i64 (b : Int)] 3)).heap[n0 + 1]? = some (.cells #[.int .i64 (b : Int), .int .i64 (K : Int)] 49 (0, 0)) := (((Keep.refl (fun _ => False) w5).alloc _).block _ (block_lt yb) id).trans yb
  have d1 : (w5.alloc (.cells #[.int .i64 (b : Int)] 3)).cell? ⟨n0 + 1, 1, none⟩ = some (.int .i64 (K : Int)) := by simp [cell_block yb2]
  clear hk5 hb5 hGn hx3 hxb hx1 hn0 y3 yb y1 yb2
  go_wp2
  generalize hw6 : w5.alloc (.cells #[.int .i64 (b : Int)] 3) = w6 at HXX d1 ⊢
  obtain ⟨n2, hn2⟩ : ∃ n2, w5.heap.size = n2 := ⟨_, rfl⟩
  rw [hn2] at HXX ⊢
  have hn2' : n0 + 3 ≤ n2 := by omega
  clear hw6 hn2 hs5 c0 c1 d1
  go_loopw [10] (fun i wr => ∃ j : Nat, o ≤ j ∧ j ≤ K ∧ (∃ t : Int, t = (j : Int) - 1 ∧ i = .int .i64 t) ∧ ∃ S', Rp S' (subB F j (dn j f)) ∧ blk F j (dn j f) ∧ BS wr B p n S' fr (Gx G n0 (n0 + 1 + 1) n2 n0) ∧ Bx wr (n0 + 1 + 1) n2 n0 p f (dn j f) ∧ Keep (fun z => z = p ∨ G z ∨ n0 ≤ z) w wr) (fun i _ => (intOf i + 1).toNat)
  case atStart => exact ⟨K, ho, Nat.le_refl _, ⟨_, rfl, rfl⟩, _, by rw [HDK.out]; exact HR0.out, by rw [HDK.out]; exact HBL.out, HXX.out.2.1, by rw [HDK.out]; exact HXX.out.1, HXX.out.2.2⟩
  case round =>
    obtain ⟨j, hoj, hjK, ⟨t, ht, rfl⟩, S', hR', hbl, hbs, hbx, hkeep⟩ := hrel
    have HR' := Lib.hid hR'
    have HBL' := Lib.hid hbl
    have HBS := Lib.hid hbs
    have HBX := Lib.hid hbx
    have HK := Lib.hid hkeep
    clear hR' hbl hbs hbx hkeep
    by_cases hlt : o < j
    · obtain ⟨k, rfl⟩ : ∃ k, j = k + 1 := ⟨j - 1, by omega⟩
      have htk : t = (k : Int) := by omega
      subst htk
      have hk8 : k < 8 := by omega
      obtain ⟨r1, r2, r3, r4⟩ := rp_half HR'.out hk8 HBL'.out
      have HR2 := Lib.hid (And.intro r1 r3)
      have hsn := HFF.out _ r4
      obtain ⟨g1, g2⟩ := dn_half k f
      have hsb : Hid (BS wr B p n S' fr (Gx G n0 (n0 + 1 + 1) n2 n0)) := HBS.out
      have hcase : (dn (k + 1) f + 2 ^ k ≤ f ∧ sibL k f = dn (k + 1) f ∧ dn k f = dn (k + 1) f + 2 ^ k) ∨ (f < dn (k + 1) f + 2 ^ k ∧ sibL k f = dn (k + 1) f + 2 ^ k ∧ dn k f = dn (k + 1) f) := by
        unfold sibL
        by_cases e : dn (k + 1) f + 2 ^ k ≤ f
        · rw [if_pos e]; exact .inl ⟨e, rfl, g1 e⟩
        · rw [if_neg e]; exact .inr ⟨by omega, rfl, g2 (by omega)⟩
      have hdl := dn_le (k + 1) f
      have hno : ∀ z, n0 ≤ z → (z = n0 + 1 + 1 ∨ z = n2 ∨ z = n0) → ¬ (z = p ∨ Gx G n0 (n0 + 1 + 1) n2 n0 z) := fun z hz hz2 hh => by
        rcases hh with hh | hh | hh
        · have := HN0.out; omega
        · have := HG.out z hh; have := HN0.out; omega
        · omega
      have HALF := Lib.hid (half_any (Nat.le_trans hB HK.out.size) HBS.out (by omega) HBX.out (hno _ (by omega) (.inl rfl)) (hno _ (by omega) (.inr (.inl rfl))) (hno _ (by omega) (.inr (.inr rfl))) (by omega) (by omega) (sibL k f) (dn k f) hsn r2 (by omega) (by omega) hcase)
      clear r1 r2 r3 r4 g1 g2 hcase hno hsb ht
      go_wp2_with fail
      refine HALF.out.mono ?_
      rintro e w7 ⟨rfl, hb7, hx7, hk7⟩
      have HB7 : Hid (BS w7 B p n (putS S' k (sibL k f)) fr (Gx G n0 (n0 + 1 + 1) n2 n0)) := hb7.mono fun x hx => by
        rcases hx with hx | hx
        · exact hx
        · have := block_lt HBX.out.b1; have := block_lt HBX.out.b2; have := block_lt HBX.out.b3
          exact .inr ⟨by omega, by omega, by omega, by omega⟩
      have HX7 := Lib.hid hx7
      have HK7 : Hid (Keep (fun z => z = p ∨ G z ∨ n0 ≤ z) w w7) := HK.out.on hk7 fun z hz e => by
        rcases e with e | e | e
        · exact .inl e
        · rcases e with e | e
          · exact .inr (.inl e)
          · exact .inr (.inr e.1)
        · exact .inr (.inr (by omega))
      clear hb7 hx7 hk7
      go_wp2
      go_roundw
      case rel => exact ⟨k, by omega, by omega, ⟨(k : Int) - 1, rfl, by go_num⟩, _, HR2.out.1, HR2.out.2, HB7.out, HX7.out, HK7.out⟩
      case measure => (simp [intOf]; try omega)
    · obtain rfl : j = o := by omega
      have c3 := cell1 HBX.out.b3
      obtain ⟨V, hV, hGV⟩ := HBS.out
      have c10 := hV.c10
      have fz := hV.fz 10
      have hRo : Hid (Rp S' (subB F j f)) := by have := HR'.out; rw [HDO.out] at this; exact this
      obtain ⟨P, hP⟩ : ∃ P, 2 ^ j = P := ⟨_, rfl⟩
      have HP := Lib.hid hP
      rw [hP] at hpo2 z1 z2
      obtain ⟨a1, a2⟩ := fr_sub fr P hfr hpo2.2
      have HA2 := Lib.hid a2
      clear a2
      have htj : t < (j : Int) := by omega
      clear hV hGV hP ht
      go_wp2
      go_region
      all_goals
        go_wp2
        go_end0
        unfold CarveC
        rw [HP.out]
        have hq := bs_free (fr' := fr - (P : Int)) HBS.out HA2.out (Keep.drew (Keep.refl (fun _ => False) wr))
        refine ⟨rfl, S', hq.1.mono fun x hx => ?_, hRo.out, ?_⟩
        · rw [HN0.out]
          exact hx.imp id (fun h => h.1)
        · refine Keep.on (T := fun z => z = p) ?_ hq.2 (fun z _ e => .inl e)
          exact HK.out.mono fun z hz h => by
            rcases h with h | h | h
            · exact .inl h
            · exact .inr h
            · have := HN0.out; omega

end Go.Proofs.Ytnjcchgbkemekaa
