/- Buddy: Give. -/
import Derived.Test.YtnjcchgbkemekaaK
set_option linter.unusedVariables false
set_option linter.unusedSimpArgs false
namespace Go.Proofs.Ytnjcchgbkemekaa
open Go.RowKit Go.Own

theorem fr_add (c P : Nat) (h : c ≤ 1024) (h1 : P ≤ 256) : IntKind.i64.wrap ((c : Int) + (P : Int)) = ((c + P : Nat) : Int) ∧ -100000 ≤ ((c + P : Nat) : Int) ∧ ((c + P : Nat) : Int) ≤ 100000 := ⟨by rw [← Int.natCast_add]; exact IntWalk.i64_in _ (by omega), by omega, by omega⟩
theorem wsum (a b : Nat) (h : a ≤ 2000) (h1 : b ≤ 2000) : IntKind.i64.wrap ((a : Int) + (b : Int)) = ((a + b : Nat) : Int) := by rw [← Int.natCast_add]; exact IntWalk.i64_in _ (by omega)
theorem min_nat (a b : Nat) : (if (b : Int) < (a : Int) then (b : Int) else (a : Int)) = ((min a b : Nat) : Int) := by split <;> omega

set_option maxRecDepth 100000 in
set_option maxHeartbeats 2000000 in
theorem give_busy {w : World} {B p n f o : Nat} {F : Nat → Bool} {G : Nat → Prop} (h : BF w B p n F G) (hw : wrE n f o = 0) (ho : o ≤ 8) (hfn : f + 2 ^ o ≤ n) (hb : ¬ ∀ i, f ≤ i → i < f + 2 ^ o → F i = false) :
    Calls Try.prog 40 #[.pointer (some ⟨p, 0, none⟩), .int .i64 (f : Int), .int .i64 (o : Int)] w fun e w' => e = .returned (.int .i64 12) ∧ Keep (fun _ => False) w w' := by
  have hn := h.hn
  have HBF := Lib.hid h
  obtain ⟨S, h1, h2, h3⟩ := h
  have HW := Lib.hid (wrong_any f o h1)
  rw [hw] at HW
  have HH := Lib.hid (fun W (K : Keep (fun _ => False) w W) (i : Nat) (hi : i < n) => has_in (h1.keep0 K) h2 hi)
  have hp := pw o ho
  obtain ⟨e1, e2⟩ := pw_w o ho
  have HNB := Lib.hid hb
  obtain ⟨P, hP⟩ : ∃ P, 2 ^ o = P := ⟨_, rfl⟩
  rw [hP] at hp e1 e2 hfn HNB
  have oz : (0 : Int) ≤ (o : Int) := Int.natCast_nonneg o
  clear h1 h2 h3 hw hb hP
  go_enter Try.func40, Try.ntmps40
  go_wp2_with (go_at_call 49; refine HW.out.mono ?_; rintro e w1 ⟨rfl, hk1⟩; have HK1 := Lib.hid hk1; clear hk1)
  go_loopw [21] (fun i wr => ∃ k : Nat, k ≤ P ∧ i = .int .i64 k ∧ (∀ j, f ≤ j → j < f + k → F j = false) ∧ Keep (fun _ => False) w wr) (fun i _ => P - (intOf i).toNat)
  case atStart => exact ⟨0, by omega, rfl, fun j h1 h2 => by omega, HK1.out⟩
  case round =>
    obtain ⟨k, hk, rfl, hno, hkeep⟩ := hrel
    have HNO := Lib.hid hno
    have HK := Lib.hid hkeep
    clear hno hkeep
    by_cases hlt : k < P
    · have a1 := wsum f k (by omega) (by omega)
      have HC := Lib.hid (HH.out wr HK.out (f + k) (by omega))
      have hkP : (k : Int) < (P : Int) := by omega
      obtain ⟨g, hg⟩ : ∃ g, f + k = g := ⟨_, rfl⟩
      rw [hg] at a1 HC
      have HGG := Lib.hid hg
      clear hg
      cases hF : F g with
      | true =>
        rw [hF] at HC
        clear hF
        go_wp2_with (go_at_call 41; refine HC.out.mono ?_; rintro e w2 ⟨rfl, hk2⟩; have HK2 := Lib.hid (HK.out.trans hk2); clear hk2)
        go_ret
        exact ⟨rfl, HK2.out⟩
      | false =>
        have HN2 : Hid (∀ j, f ≤ j → j < f + (k + 1) → F j = false) := fun j h1 h2 => by
          by_cases e : j = g
          · rw [e]; exact hF
          · exact HNO.out j h1 (by have := HGG.out; omega)
        rw [hF] at HC
        clear hF
        go_wp2_with (go_at_call 41; refine HC.out.mono ?_; rintro e w2 ⟨rfl, hk2⟩; have HK2 := Lib.hid (HK.out.trans hk2); clear hk2)
        go_roundw
        case rel => exact ⟨k + 1, by omega, by go_num, HN2.out, HK2.out⟩
        case measure => simp [intOf]; omega
    · obtain rfl : k = P := by omega
      exact absurd HNO.out HNB.out

set_option maxRecDepth 100000 in
set_option maxHeartbeats 8000000 in
theorem give_ok {w : World} {B p n f o : Nat} {F : Nat → Bool} {G : Nat → Prop} (hB : B ≤ w.heap.size) (h : BF w B p n F G) (hG : ∀ x, G x → x < w.heap.size) (hw : wrE n f o = 0) (ho : o ≤ 8) (hfo : f % 2 ^ o = 0) (hfn : f + 2 ^ o ≤ n) (hb : ∀ i, f ≤ i → i < f + 2 ^ o → F i = false) :
    Calls Try.prog 40 #[.pointer (some ⟨p, 0, none⟩), .int .i64 (f : Int), .int .i64 (o : Int)] w fun e w' => e = .returned (.int .i64 0) ∧ TookC w w' B p n (addB F o f) G := by
  have hn := h.hn
  have HCA := Lib.hid (cnt_add hfn hb)
  have hcl := cnt_le F n
  have HBF := Lib.hid h
  have HG := Lib.hid hG
  obtain ⟨S, h1, h2, h3⟩ := h
  have hpl : p < w.heap.size := by obtain ⟨V, h4, _⟩ := h1; exact block_lt h4.hp
  have HS1 := Lib.hid h1
  have HW := Lib.hid (wrong_any f o h1)
  rw [hw] at HW
  have HH := Lib.hid (fun W (K : Keep (fun _ => False) w W) (i : Nat) (hi : i < n) => has_in (h1.keep0 K) h2 hi)
  have HSF : Hid (Rp S (subB (addB F o f) o f)) := by unfold Hid; rw [sub_add hb]; exact h2
  have HBL : Hid (blk (addB F o f) o f) := fun i i1 i2 => by rw [addB_iff]; exact .inr ⟨i1, i2⟩
  have HFn : Hid (∀ i, addB F o f i = true → i < n) := fun i hi => by
    rw [addB_iff] at hi
    rcases hi with hi | hi
    · exact h3 i hi
    · omega
  obtain ⟨F', hF'⟩ : ∃ F', addB F o f = F' := ⟨_, rfl⟩
  rw [hF'] at HSF HBL HFn HCA ⊢
  have hp := pw o ho
  obtain ⟨e1, e2⟩ := pw_w o ho
  have HNB := Lib.hid hb
  have HFO := Lib.hid hfo
  obtain ⟨P, hP⟩ : ∃ P, 2 ^ o = P := ⟨_, rfl⟩
  rw [hP] at hp e1 e2 hfn HNB HCA
  obtain ⟨c, hc⟩ : ∃ c, cnt F n = c := ⟨_, rfl⟩
  rw [hc] at HCA HS1 hcl
  have oz : (0 : Int) ≤ (o : Int) := Int.natCast_nonneg o
  obtain ⟨a9, hfr⟩ := fr_add c P (by omega) hp.2
  have HFR := Lib.hid hfr
  clear h1 h2 h3 hw hb hP hG hfo hF' hfr hc
  go_enter Try.func40, Try.ntmps40
  go_wp2_with (go_at_call 49; refine HW.out.mono ?_; rintro e w1 ⟨rfl, hk1⟩; have HK1 := Lib.hid hk1; clear hk1)
  go_loopw [21] (fun i wr => ∃ k : Nat, k ≤ P ∧ i = .int .i64 k ∧ Keep (fun _ => False) w wr) (fun i _ => P - (intOf i).toNat)
  case atStart => exact ⟨0, by omega, rfl, HK1.out⟩
  case round =>
    obtain ⟨k, hk, rfl, hkeep⟩ := hrel
    have HK := Lib.hid hkeep
    clear hkeep
    by_cases hlt : k < P
    · have a1 := wsum f k (by omega) (by omega)
      have HC := Lib.hid (HH.out wr HK.out (f + k) (by omega))
      have hFg : F (f + k) = false := HNB.out _ (by omega) (by omega)
      rw [hFg] at HC
      have hkP : (k : Int) < (P : Int) := by omega
      obtain ⟨g, hg⟩ : ∃ g, f + k = g := ⟨_, rfl⟩
      rw [hg] at a1 HC
      clear hg hFg
      go_wp2_with (go_at_call 41; refine HC.out.mono ?_; rintro e w2 ⟨rfl, hk2⟩; have HK2 := Lib.hid (HK.out.trans hk2); clear hk2)
      go_roundw
      case rel => exact ⟨k + 1, by omega, by go_num, HK2.out⟩
      case measure => simp [intOf]; omega
    · obtain rfl : k = P := by omega
      have HSr := Lib.hid (HS1.out.keep0 HK.out)
      have c10 : wr.cell? ⟨p, 10, none⟩ = some (.int .i64 (c : Int)) := by obtain ⟨V, h4, _⟩ := HSr.out; exact h4.c10
      have fz : wr.frozen? ⟨p, 10, none⟩ = false := by obtain ⟨V, h4, _⟩ := HSr.out; exact h4.fz 10
      go_wp2
      go_region
      all_goals
        have hq := bs_free (fr' := ((c + k : Nat) : Int)) HSr.out HFR.out (Keep.drew (Keep.refl (fun _ => False) wr))
        have HQ1 : Hid (BS ((World.drew wr).setCell ⟨p, 10, none⟩ (.int .i64 ((c + k : Nat) : Int))) B p n S ((c + k : Nat) : Int) (fun x => G x ∨ w.heap.size ≤ x)) := hq.1.mono fun x hx => .inl hx
        have HQ2 : Hid (Keep (fun z => z = p ∨ G z ∨ w.heap.size ≤ z) w ((World.drew wr).setCell ⟨p, 10, none⟩ (.int .i64 ((c + k : Nat) : Int)))) := (HK.out.mono (fun _ _ h => h.elim)).trans (hq.2.mono fun z _ h => .inl h)
        clear hq
        go_wp2
        go_loopw [1, 2] (fun sa si w4 => ∃ a q : Nat, q ≤ 8 ∧ sa = .int .i64 (a : Nat) ∧ si = .int .i64 (q : Nat) ∧ a % 2 ^ q = 0 ∧ blk F' q a ∧ ∃ S', Rp S' (subB F' q a) ∧ BS w4 B p n S' ((c + k : Nat) : Int) (fun x => G x ∨ w.heap.size ≤ x) ∧ Keep (fun z => z = p ∨ G z ∨ w.heap.size ≤ z) w w4) (fun _ si _ => 8 - (intOf si).toNat)
        case atStart => exact ⟨f, o, ho, rfl, rfl, HFO.out, HBL.out, S, HSF.out, HQ1.out, HQ2.out⟩
        case round =>
          obtain ⟨a, q, hq8, rfl, rfl, haq, hbl, S', hR', hbs, hkeep⟩ := hrel
          have HAQ := Lib.hid haq
          have HBLq := Lib.hid hbl
          have HR' := Lib.hid hR'
          have HBS := Lib.hid hbs
          have HKw := Lib.hid hkeep
          have han : a < n := HFn.out a (hbl a (Nat.le_refl _) (by have := p2 q; omega))
          have hB4 : B ≤ wr.heap.size := Nat.le_trans hB hkeep.size
          have HFIN : Hid ((q < 8 → S' q (oth q a) = false) → ∀ W, Keep (fun _ => False) wr W → Calls Try.prog 56 #[.pointer (some ⟨p, 0, none⟩), .int .i64 (a : Int), .int .i64 (q : Int)] W fun e w' => e = .returned (.tuple #[]) ∧ TookC w w' B p n F' G) := fun hs W K => by
            obtain ⟨r1, r2⟩ := rp_last HR'.out HBLq.out HAQ.out hq8 hs
            refine (put_any (Nat.le_trans hB4 K.size) (HBS.out.keep0 K) hq8 han r2).mono ?_
            rintro e w' ⟨rfl, g1, g2⟩
            refine ⟨rfl, ⟨_, ?_, r1, HFn.out⟩, ?_⟩
            · rw [HCA.out]
              exact g1.mono fun x hx => by
                rcases hx with hx | hx
                · exact hx
                · have := HKw.out.size; have := K.size; exact .inr (by omega)
            · refine Keep.mono (S := fun z => z = p ∨ G z ∨ w.heap.size ≤ z) ?_ (fun z hz h => by
                rcases h with h | h | h
                · exact .inl h
                · exact .inr h
                · omega)
              exact (HKw.out.on K (fun _ _ h => h.elim)).on g2 fun z _ h => by
                rcases h with h | h | h
                · exact .inl h
                · exact .inr (.inl h)
                · exact .inr (.inr h)
          clear haq hbl hR' hbs hkeep
          by_cases hq7 : q < 8
          · have hpq := pw q hq8
            obtain ⟨z1, z2⟩ := pw_w q hq8
            have hxo := xor_pow ⟨q, by omega⟩ ⟨a, by omega⟩ HAQ.out
            simp only at hxo
            have hos := oth_spec HAQ.out
            have HJOIN := Lib.hid (fun hs => rp_join HR'.out HBLq.out HAQ.out hq7 hs)
            obtain ⟨b, hbb⟩ : ∃ b, oth q a = b := ⟨_, rfl⟩
            rw [hbb] at hxo hos HFIN HJOIN
            have HPL := Lib.hid (fun W (K : Keep (fun _ => False) wr W) => by
              obtain ⟨V, hV, _⟩ := HBS.out.keep0 K
              exact place_any (b : Int) hV hq8)
            rw [li_contains] at HPL
            obtain ⟨Q, hQ⟩ : ∃ Q, 2 ^ q = Q := ⟨_, rfl⟩
            rw [hQ] at hxo z1 z2 hpq
            have qz : (0 : Int) ≤ (q : Int) := Int.natCast_nonneg q
            have q7 : (q : Int) < 8 := by omega
            clear hbb hQ hos
            cases hsb : S' q b with
            | true =>
              have hbn : b < n := mx_lt (F := subB F' q a) (fun i hi => HFn.out i ((subB_iff F' q a i).mp hi).1) ((HR'.out q b hq8).mp hsb)
              have HDR := Lib.hid (fun W (K : Keep (fun _ => False) wr W) => drop_any (Nat.le_trans hB4 K.size) (HBS.out.keep0 K) hq8 hbn hsb)
              obtain ⟨j1, j2, j3⟩ := HJOIN.out hsb
              have HJ := Lib.hid (And.intro j1 (And.intro j2 j3))
              rw [hsb, decide_eq_true hbn] at HPL
              simp only [Bool.and_true] at HPL
              have hmn := min_nat a b
              clear hsb j1 j2 j3
              go_wp2_with (first | (go_at_call 54; refine (HPL.out _ (by (repeat (first | exact Keep.refl _ _ | exact Keep.refl _ _ | refine Keep.drew ?_ | refine Keep.drewN ?_ _ | refine Keep.alloc ?_ _ | refine Keep.setNew ?_ (by omega) _)); done)).mono ?_; rintro e w5 ⟨rfl, hk5⟩; have HK5 := Lib.hid hk5; clear hk5) | (go_at_call 55; refine (HDR.out _ HK5.out).mono ?_; rintro e w6 ⟨rfl, hb6, hk6⟩; have HB6 : Hid (BS w6 B p n (dropS S' q b) ((c + k : Nat) : Int) (fun x => G x ∨ w.heap.size ≤ x)) := (hb6.mono fun x hx => (by rcases hx with hx | hx; (exact hx); have := HKw.out.size; have := HK5.out.size; exact .inr (by omega))); have HK6 : Hid (Keep (fun z => z = p ∨ G z ∨ w.heap.size ≤ z) w w6) := (HKw.out.on HK5.out (fun _ _ h => h.elim)).on hk6 (fun z _ h => h); clear hb6 hk6))
              go_roundw
              case rel => exact ⟨min a b, q + 1, by omega, by rw [← hmn]; go_num, by go_num, HJ.out.2.2, HJ.out.2.1, dropS S' q b, HJ.out.1, HB6.out, HK6.out⟩
              case measure => simp [intOf]; omega
            | false =>
              have HF2 := Lib.hid (HFIN.out (fun _ => hsb))
              rw [hsb] at HPL
              simp only [Bool.and_false] at HPL
              clear hsb
              go_wp2_with (first | (go_at_call 54; refine (HPL.out _ (by (repeat (first | exact Keep.refl _ _ | exact Keep.refl _ _ | refine Keep.drew ?_ | refine Keep.drewN ?_ _ | refine Keep.alloc ?_ _ | refine Keep.setNew ?_ (by omega) _)); done)).mono ?_; rintro e w5 ⟨rfl, hk5⟩; have HK5 := Lib.hid hk5; clear hk5) | (go_at_call 56; refine (HF2.out _ HK5.out).mono ?_; rintro e w6 ⟨rfl, ht6⟩))
              go_ret
              exact ⟨rfl, ht6⟩
          · have HF2 := Lib.hid (HFIN.out (fun h => absurd h hq7))
            obtain rfl : q = 8 := by omega
            go_wp2_with (go_at_call 56; refine (HF2.out _ (by (repeat (first | exact Keep.refl _ _ | exact Keep.refl _ _ | refine Keep.drew ?_ | refine Keep.drewN ?_ _ | refine Keep.alloc ?_ _ | refine Keep.setNew ?_ (by omega) _)); done)).mono ?_; rintro e w6 ⟨rfl, ht6⟩)
            go_ret
            exact ⟨rfl, ht6⟩

end Go.Proofs.Ytnjcchgbkemekaa
