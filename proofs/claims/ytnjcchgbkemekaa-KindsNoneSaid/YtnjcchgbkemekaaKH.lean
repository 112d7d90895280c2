/- Kinds: pieces. -/
import Derived.Test.YtnjcchgbkemekaaKG
set_option linter.unusedVariables false
set_option linter.unusedSimpArgs false
namespace Go.Proofs.Ytnjcchgbkemekaa
open Go.RowKit Go.Own

theorem PcI.add {w w' : World} {n3 n5 C b : Nat} {P : Nat → Prop} {o : Int} {A : List Bk} (h : PcI w n3 n5 C P o A) (K : Keep (fun _ => False) w w') (hb : w.heap.size ≤ b) (hb2 : b < w'.heap.size) : PcI w' n3 n5 C (fun z => P z ∨ z = b) o A := by
  obtain ⟨v, h1, h2, h3, h4, h5, h6, h7, h8, h9, h10⟩ := h
  refine ⟨v, (K.block _ (block_lt h1) id).trans h1, (K.block _ (block_lt h2) id).trans h2, h3.keep K (fun _ _ => id), ?_, h5, h6, ?_, ?_, ?_, Nat.le_trans h10 K.size⟩
  · rintro x hx (hp | rfl)
    · exact h4 x hx hp
    · have := (h3.lt x hx).2; omega
  · rintro (hp | e)
    · exact h7 hp
    · have := block_lt h1; omega
  · rintro (hp | e)
    · exact h8 hp
    · have := block_lt h2; omega
  · rintro z (hz | rfl)
    · exact Nat.lt_of_lt_of_le (h9 z hz) K.size
    · exact hb2
theorem PcI.less {w : World} {n3 n5 C : Nat} {P P' : Nat → Prop} {o : Int} {A : List Bk} (h : PcI w n3 n5 C P' o A) (hP : ∀ z, P z → P' z) : PcI w n3 n5 C P o A := by
  obtain ⟨v, h1, h2, h3, h4, h5, h6, h7, h8, h9, h10⟩ := h
  exact ⟨v, h1, h2, h3, fun x hx hp => h4 x hx (hP x hp), h5, h6, fun hp => h7 (hP _ hp), fun hp => h8 (hP _ hp), fun z hz => h9 z (hP z hz), h10⟩
theorem pcs_take {M : Nat → Int} {D : List Bk} {j : Nat} (hj : j < D.length) : pcs M (D.take (j + 1)) = pcs M (D.take j) ++ pcB M D[j] := by
  unfold pcs
  rw [List.take_succ_eq_append_getElem hj, List.flatMap_append]; simp
theorem pcB_len {M : Nat → Int} {x : Bk} (h : x.o.toNat ≤ 8) : (pcB M x).length ≤ 32 := by
  unfold pcB
  split
  · simp
  · rw [List.length_map, List.length_range]
    exact Nat.le_trans (Nat.pow_le_pow_right (n := 2) (by decide) (show x.o.toNat - 3 ≤ 5 by omega)) (by decide)
theorem pcs_len {M : Nat → Int} : ∀ {L : List Bk}, (∀ x, x ∈ L → x.o.toNat ≤ 8) → (pcs M L).length ≤ 32 * L.length
  | [], _ => by simp [pcs]
  | x :: L, h => by
    have h1 := pcB_len (M := M) (h x (List.mem_cons_self ..))
    have h2 := pcs_len (M := M) (L := L) fun y hy => h y (List.mem_cons_of_mem _ hy)
    have e : pcs M (x :: L) = pcB M x ++ pcs M L := by simp [pcs]
    rw [e, List.length_append, List.length_cons]; omega
theorem flO_len (o : Int) (L : List Bk) : (flO o L).length ≤ L.length := List.length_filter_le _ _
theorem flO_app (o : Int) (L R : List Bk) : flO o (L ++ R) = flO o L ++ flO o R := List.filter_append ..
/-- The sections of a block. -/
def secs (a Q : Nat) : List Bk := (List.range Q).map fun (i : Nat) => (⟨(a : Int) + 8 * i, 3⟩ : Bk)
theorem secs_succ (a i : Nat) : secs a (i + 1) = secs a i ++ [⟨((a + 8 * i : Nat) : Int), 3⟩] := by
  unfold secs; rw [List.range_succ, List.map_append]; simp
theorem pcB_one {M : Nat → Int} {a k : Nat} (h : k ≤ 3 ∨ alB M a k = false) : pcB M ⟨a, k⟩ = [⟨a, k⟩] := by
  unfold pcB
  rw [if_pos]
  rcases h with h | h
  · left; simp; omega
  · right; simpa using h
theorem pcB_many {M : Nat → Int} {a k : Nat} (h : 3 < k) (h2 : alB M a k = true) : pcB M ⟨a, k⟩ = secs a (2 ^ (k - 3)) := by
  unfold pcB secs
  rw [if_neg]
  · simp
  · rintro (h3 | h3)
    · simp at h3; omega
    · simp at h3; rw [h2] at h3; cases h3
/-- What pieces answers. -/
def PcC (F : Nat → Bool) (M : Nat → Int) (o : Int) (w : World) (e : Ending) (w' : World) : Prop :=
  ∃ v D, e = .returned v ∧ IsBl F D ∧ OwnL bkE w' w.heap.size 49 v (pcO M D o) ∧ (pcO M D o).length ≤ 1000000 ∧ Keep (fun _ => False) w w'
/-- The state behind some pieces. -/
def PcS (w wr : World) (n3 n5 C : Nat) (P : Nat → Prop) (o : Int) (v15 : Value) (D A : List Bk) : Prop :=
  PcI wr n3 n5 C P o A ∧ Keep (fun _ => False) w wr ∧ OwnL bkE wr C 49 v15 D
theorem keep_fresh {w wr w' : World} {S : Nat → Prop} (K : Keep (fun _ => False) w wr) (h : Keep S wr w') (hS : ∀ z, S z → w.heap.size ≤ z) : Keep (fun _ => False) w w' :=
  ⟨h.os.trans K.os, h.tape.trans K.tape, h.output.trans K.output, Nat.le_trans K.size h.size, fun k hk _ => (h.block k (Nat.lt_of_lt_of_le hk K.size) fun hs => by have := hS k hs; omega).trans (K.block k hk id)⟩
theorem PcS.put {w wr : World} {n3 n5 : Nat} {P : Nat → Prop} {o : Int} {v15 : Value} {D A : List Bk} (y : Bk) (h : PcS w wr n3 n5 w.heap.size P o v15 D A) (hP : ∀ z, v15.ownBlock = some z → P z) (hl : A.length ≤ 1000000) :
    Calls Try.prog 47 #[.agg #[.int .i64 y.f, .int .i64 y.o], .pointer (some ⟨n3, 0, none⟩), .pointer (some ⟨n5, 0, none⟩)] wr fun e w' => e = .returned (.tuple #[]) ∧ PcS w w' n3 n5 w.heap.size P o v15 D (A ++ flO o [y]) ∧ KP w.heap.size P wr w' := by
  refine (put_pc y h.1 hl).mono ?_
  rintro e w' ⟨rfl, h1, h2⟩
  exact ⟨rfl, ⟨h1, keep_fresh h.2.1 h2 (fun z hz => hz.1), h.2.2.keep h2 (fun x hx h3 => h3.2 (hP x hx))⟩, h2⟩

theorem PcS.keep0 {w wr w' : World} {n3 n5 C : Nat} {P : Nat → Prop} {o : Int} {v15 : Value} {D A : List Bk} (h : PcS w wr n3 n5 C P o v15 D A) (K : Keep (fun _ => False) wr w') : PcS w w' n3 n5 C P o v15 D A :=
  ⟨h.1.keep0 K, h.2.1.trans K, h.2.2.keep K (fun _ _ => id)⟩
theorem kb_blocks {w : World} {B k b kr n : Nat} {F : Nat → Bool} {M : Nat → Int} {N : Nat → Prop} (h : KO w B k b kr n F M N) : Calls Try.prog 38 #[.pointer (some ⟨b, 0, none⟩)] w (BlC F w) := blocks_any h.bf
theorem pcs_start {w w1 w2 : World} {n3 n5 : Nat} {o : Int} {v15 : Value} {D : List Bk} (h3 : w1.heap[n3]? = some (.cells #[.int .i64 o] 3 (0, 0))) (h5 : w1.heap[n5]? = some (.cells #[.slice none 0 0] 38 (0, 0))) (K : Keep (fun _ => False) w w1) (hO : OwnL bkE w2 w1.heap.size 49 v15 D) (K2 : Keep (fun _ => False) w1 w2)
    (e3 : w.heap.size ≤ n3) (e5 : w.heap.size ≤ n5) : PcS w w2 n3 n5 w.heap.size (fun z => v15.ownBlock = some z) o v15 D [] := by
  have g3 := (K2.block _ (block_lt h3) id).trans h3
  have g5 := (K2.block _ (block_lt h5) id).trans h5
  refine ⟨⟨.slice none 0 0, g3, g5, OwnL.nil _ _ _, fun x hx => by simp [Value.ownBlock] at hx, e3, e5, own_net hO g3 (by decide), own_net hO g5 (by decide), fun z hz => (hO.lt z hz).2, Nat.le_trans K.size K2.size⟩, K.trans K2, hO.base fun x hx => Nat.le_trans K.size (hO.lt x hx).1⟩

set_option maxRecDepth 100000 in
set_option maxHeartbeats 4000000 in
theorem pieces_any {w : World} {B k b kr n : Nat} {F : Nat → Bool} {M : Nat → Int} {N : Nat → Prop} (o : Int) (h : KO w B k b kr n F M N) :
    Calls Try.prog 33 #[.pointer (some ⟨k, 0, none⟩), .int .i64 o] w (PcC F M o w) := by
  have HO := Lib.hid h
  have h3 := heap_alloc_new w (.cells #[.int .i64 o] 3)
  have h5 := heap_alloc_new (w.alloc (.cells #[.int .i64 o] 3)) (.cells #[.slice none 0 0] 38)
  have h3' : ((w.alloc (.cells #[.int .i64 o] 3)).alloc (.cells #[.slice none 0 0] 38)).heap[w.heap.size]? = some (.cells #[.int .i64 o] 3 (0, 0)) := by
    rw [heap_alloc_at, if_neg (by simp)]; exact h3
  rw [World.size_alloc] at h5
  have HB3 := Lib.hid h3'
  have HB5 := Lib.hid h5
  have HKA : Hid (Keep (fun _ => False) w ((w.alloc (.cells #[.int .i64 o] 3)).alloc (.cells #[.slice none 0 0] 38))) := ((Keep.refl _ _).alloc _).alloc _
  obtain ⟨z0, z1, z2⟩ := cells3 (h.keep0 HKA.out).hk
  clear h h3 h5 h3'
  go_enter Try.func33, Try.ntmps33
  go_wp2_with fail
  generalize (w.alloc (.cells #[.int .i64 o] 3)).alloc (.cells #[.slice none 0 0] 38) = w1 at HB3 HB5 HKA z0 z1 z2 ⊢
  obtain ⟨n5, hn5⟩ : ∃ n5, w.heap.size + 1 = n5 := ⟨_, rfl⟩
  rw [hn5] at HB5 ⊢
  obtain ⟨n3, hn3⟩ : ∃ n3, w.heap.size = n3 := ⟨_, rfl⟩
  have HN : Hid (w.heap.size ≤ n3 ∧ w.heap.size ≤ n5) := ⟨by omega, by omega⟩
  rw [hn3] at HB3 ⊢
  clear hn3 hn5
  refine (kb_blocks (HO.out.keep0 HKA.out)).mono ?_
  rintro e w2 ⟨v15, D, rfl, hO, hI, hl, hk2⟩
  obtain ⟨a15, c15, rfl, hag⟩ := hO.slice
  have HPS : Hid (PcS w w2 n3 n5 w.heap.size (fun z => (Value.slice a15 D.length c15).ownBlock = some z) o (.slice a15 D.length c15) D []) :=
    pcs_start HB3.out HB5.out HKA.out hO hk2 HN.out.1 HN.out.2
  have HI := Lib.hid hI
  have HL := Lib.hid hl
  have HAG := Lib.hid hag
  have HD8 : Hid (∀ x, x ∈ D → x.o.toNat ≤ 8) := fun x hx => by
    obtain ⟨q, a, hm, rfl⟩ := (hI.2 x).mp hx
    simpa using hm.1
  have HFN := Lib.hid HO.out.bf.fin
  have HN1 := Lib.hid HO.out.bf.n1024
  clear z0 z1 z2 hO hI hl hag hk2
  go_wp2
  go_loopw [17] (fun i wr => ∃ j : Nat, j ≤ D.length ∧ i = .int .i64 (j : Int) ∧ PcS w wr n3 n5 w.heap.size (fun z => (Value.slice a15 D.length c15).ownBlock = some z) o (.slice a15 D.length c15) D (flO o (pcs M (D.take j)))) (fun i _ => D.length - (intOf i).toNat)
  case atStart => exact ⟨0, by omega, rfl, HPS.out⟩
  case round =>
    obtain ⟨j, hj, rfl, hS⟩ := hrel
    have HS := Lib.hid hS
    clear hS HPS
    have HLA : Hid ((flO o (pcs M (D.take j))).length ≤ 320000) := by
      have h1 := flO_len o (pcs M (D.take j))
      have h2 := pcs_len (M := M) (L := D.take j) fun x hx => HD8.out x (List.mem_of_mem_take hx)
      have h3 := HL.out
      rw [List.length_take] at h2
      show _ ≤ _
      omega
    by_cases hjl : j < D.length
    · obtain ⟨g0, rfl⟩ := HAG.out (by intro e; rw [e] at hjl; simp at hjl)
      obtain ⟨c0, c1⟩ := bk_cells HS.out.2.2 hjl
      have hstep := pcs_take (M := M) hjl
      obtain ⟨q, a, hm, hy⟩ := (HI.out.2 _).mp (List.getElem_mem hjl)
      rw [hy] at c0 c1 hstep
      simp only at c0 c1
      have hend := blk_end HFN.out hm.2.2.1
      have HM := Lib.hid hm
      have j0 : (0 : Int) ≤ j := by omega
      have j1 : (j : Int) < D.length := by omega
      have j2 : (j : Int) < 20000 := by have := HL.out; omega
      have hq8 := hm.1
      have HBX : Hid ((wr.alloc (.cells #[.int .i64 (a : Int), .int .i64 (q : Int)] 49)).heap[wr.heap.size]? = some (.cells #[.int .i64 (a : Int), .int .i64 (q : Int)] 49 (0, 0))) := heap_alloc_new wr _
      have HKB : Hid (Keep (fun _ => False) wr (wr.alloc (.cells #[.int .i64 (a : Int), .int .i64 (q : Int)] 49))) := (Keep.refl _ _).alloc _
      obtain ⟨b0, b1⟩ := cell2b HBX.out
      have HS5 : Hid (PcS w (wr.alloc (.cells #[.int .i64 (a : Int), .int .i64 (q : Int)] 49)) n3 n5 w.heap.size (fun z => (Value.slice (some ⟨g0, 0, none⟩) D.length c15).ownBlock = some z) o (.slice (some ⟨g0, 0, none⟩) D.length c15) D (flO o (pcs M (D.take j)))) := ⟨HS.out.1.keep0 HKB.out, HS.out.2.1.trans HKB.out, HS.out.2.2.keep HKB.out (fun _ _ => id)⟩
      have HADD : Hid (PcI (wr.alloc (.cells #[.int .i64 (a : Int), .int .i64 (q : Int)] 49)) n3 n5 w.heap.size (fun z => (Value.slice (some ⟨g0, 0, none⟩) D.length c15).ownBlock = some z ∨ z = wr.heap.size) o (flO o (pcs M (D.take j)))) := HS.out.1.add HKB.out (Nat.le_refl _) (by simp)
      clear hm hy
      by_cases hq3 : q ≤ 3
      · have t0 : decide ((q : Int) ≤ 3) = true := by simp; omega
        have t0' : decide (q ≤ 3) = true := by simp; omega
        rw [pcB_one (.inl hq3)] at hstep
        have HST := Lib.hid hstep
        clear hstep hq3 hend
        go_wp2_with (go_at_call 47; refine (HS5.out.put ⟨(a : Int), (q : Int)⟩ (fun _ h => h) (Nat.le_trans HLA.out (by decide))).mono ?_; rintro e w6 ⟨rfl, hs6, hk6⟩; have HS6 := Lib.hid hs6; clear hs6 hk6)
        go_roundw
        case rel => exact ⟨j + 1, by omega, by go_num, by rw [HST.out, flO_app]; exact HS6.out⟩
        case measure => simp [intOf]; omega
      · have t0 : decide ((q : Int) ≤ 3) = false := by simp; omega
        have t0' : decide (q ≤ 3) = false := by simp; omega
        have ha8 : a % 8 = 0 := by have := mod_of_le (j := 3) (show 3 ≤ q by omega) HM.out.2.1; simpa using this
        have HAL : Hid (∀ W, Keep (fun _ => False) w W → Calls Try.prog 48 #[.pointer (some ⟨k, 0, none⟩), .agg #[.int .i64 (a : Int), .int .i64 (q : Int)]] W fun e w' => e = .returned (.bool (alB M a q)) ∧ Keep (fun _ => False) W w') := fun W K => alone_any a q (HO.out.keep0 K) (by omega) hq8 ha8 hend
        cases hal : alB M a q with
        | false =>
          rw [pcB_one (.inr hal)] at hstep
          rw [hal] at HAL
          have HST := Lib.hid hstep
          clear hstep hal hend
          go_wp2_with (first | (go_at_call 48; refine (HAL.out _ (HS5.out.2.1)).mono ?_; rintro e w6 ⟨rfl, hk6⟩; have HS6 := Lib.hid (HS5.out.keep0 hk6); have HK6 := Lib.hid hk6; clear hk6 b0 b1; obtain ⟨b0, b1⟩ := cell2b ((HK6.out.block _ (block_lt HBX.out) id).trans HBX.out)) | (go_at_call 47; refine (HS6.out.put ⟨(a : Int), (q : Int)⟩ (fun _ h => h) (Nat.le_trans HLA.out (by decide))).mono ?_; rintro e w7 ⟨rfl, hs7, hk7⟩; have HS7 := Lib.hid hs7; clear hs7 hk7))
          go_roundw
          case rel => exact ⟨j + 1, by omega, by go_num, by rw [HST.out, flO_app]; exact HS7.out⟩
          case measure => simp [intOf]; omega
        | true =>
          have hq4 : 3 < q := by omega
          rw [pcB_many hq4 hal] at hstep
          rw [hal] at HAL
          have HST := Lib.hid hstep
          obtain ⟨P, hP, e1, e2, hpb, -⟩ := bits_k q a hq8 (by have := HN1.out; have := p2 q; omega)
          have hp8 : P = 8 * 2 ^ (q - 3) := by rw [hP]; exact p8 (by omega)
          obtain ⟨Q, hQ⟩ : ∃ Q, 2 ^ (q - 3) = Q := ⟨_, rfl⟩
          have HQ := Lib.hid hQ
          have hap : a + P ≤ 1024 := by rw [hP]; exact Nat.le_trans hend HN1.out
          have hwe : IntKind.i64.wrap ((a : Int) + (P : Int)) = ((a + P : Nat) : Int) := wsum a P (by omega) (by omega)
          obtain ⟨E, hE⟩ : ∃ E, a + P = E := ⟨_, rfl⟩
          rw [hE] at hwe hap
          have HEQ : Hid (E = a + 8 * Q) := by show E = _; rw [← hE, hp8, hQ]
          have HQ32 : Hid (Q ≤ 32) := by have h1 := hpb.2; rw [hp8, hQ] at h1; show Q ≤ 32; omega
          clear hstep hal hend hP hp8 hQ hE hq4
          go_wp2_with (go_at_call 48; refine (HAL.out _ (HS5.out.2.1)).mono ?_; rintro e w6 ⟨rfl, hk6⟩; have HS6 := Lib.hid (HS5.out.keep0 hk6); have HA6 := Lib.hid (HADD.out.keep0 hk6); have HB6 := Lib.hid ((hk6.block _ (block_lt HBX.out) id).trans HBX.out); clear hk6 b0 b1; obtain ⟨b0, b1⟩ := cell2b HB6.out)
          obtain ⟨b8, hb8⟩ : ∃ b8, wr.heap.size = b8 := ⟨_, rfl⟩
          rw [hb8] at HA6 HB6 b0 b1
          try rw [hb8]
          have HPQ : Hid (PcS w w6 n3 n5 w.heap.size (fun z => (Value.slice (some ⟨g0, 0, none⟩) D.length c15).ownBlock = some z ∨ z = b8) o (.slice (some ⟨g0, 0, none⟩) D.length c15) D (flO o (pcs M (D.take j)) ++ flO o (secs a 0))) := ⟨by simpa [secs, flO] using HA6.out, HS6.out.2.1, HS6.out.2.2⟩
          clear HADD HBX HKB HS5 hb8 HAL b0 b1 HA6 HS6
          go_loopw [9] (fun i w7 => ∃ t u : Nat, i = .int .i64 (t : Int) ∧ t = a + 8 * u ∧ u ≤ Q ∧ PcS w w7 n3 n5 w.heap.size (fun z => (Value.slice (some ⟨g0, 0, none⟩) D.length c15).ownBlock = some z ∨ z = b8) o (.slice (some ⟨g0, 0, none⟩) D.length c15) D (flO o (pcs M (D.take j)) ++ flO o (secs a u)) ∧ w7.heap[b8]? = some (.cells #[.int .i64 (a : Int), .int .i64 (q : Int)] 49 (0, 0))) (fun i _ => 3000 - (intOf i).toNat)
          case atStart => exact ⟨a, 0, rfl, by omega, by omega, HPQ.out, HB6.out⟩
          case round =>
            obtain ⟨t, u, rfl, ht, hu, hS7, hb7⟩ := hrel
            have HS7 := Lib.hid hS7
            have HB7 := Lib.hid hb7
            obtain ⟨b0, b1⟩ := cell2b hb7
            have HTU := Lib.hid ht
            clear hS7 hb7 HPQ HB6
            by_cases hlt : t < E
            · have t1 : decide ((t : Int) < (E : Int)) = true := by simp; omega
              have t2 : decide (t < E) = true := by simp; omega
              have HUQ : Hid (u < Q) := by have := HEQ.out; show u < Q; omega
              have HLB : Hid ((flO o (pcs M (D.take j)) ++ flO o (secs a u)).length ≤ 1000000) := by
                have h1 := HLA.out
                have h2 := flO_len o (secs a u)
                have h3 : (secs a u).length = u := by simp [secs]
                have h4 := HQ32.out
                show _ ≤ _
                rw [List.length_append]
                omega
              have ht2 : (t : Int) < 2000 := by omega
              clear ht
              go_wp2
              go_quiet (fail)
              go_wp2_with (go_at_call 47; refine ((HS7.out.keep0 (by (repeat (first | exact Keep.refl _ _ | exact Keep.refl _ _ | refine Keep.drew ?_ | refine Keep.drewN ?_ _ | refine Keep.alloc ?_ _ | refine Keep.setNew ?_ (by omega) _)); done)).put ⟨(t : Int), 3⟩ (fun _ h => .inl h) HLB.out).mono ?_; rintro e w8 ⟨rfl, hs8, hk8⟩; have HS8 := Lib.hid hs8; have HB8 := Lib.hid ((hk8.block b8 (block_lt HB7.out) (fun h => h.2 (.inr rfl))).trans HB7.out); clear hs8 hk8)
              go_roundw
              case rel => exact ⟨t + 8, u + 1, by go_num, by have := HTU.out; omega, HUQ.out, by (rw [secs_succ, flO_app, ← List.append_assoc, ← HTU.out]; exact HS8.out), HB8.out⟩
              case measure => simp [intOf]; omega
            · have t1 : decide ((t : Int) < (E : Int)) = false := by simp; omega
              have t2 : decide (t < E) = false := by simp; omega
              have HUE : Hid (u = Q) := by have := HEQ.out; show u = Q; omega
              clear ht
              go_wp2
              go_quiet (fail)
              go_wp2
              go_roundw
              case rel => exact ⟨j + 1, by omega, by go_num, by (rw [HST.out, flO_app, HQ.out, ← HUE.out]; exact ⟨(HS7.out.keep0 (by (repeat (first | exact Keep.refl _ _ | exact Keep.refl _ _ | refine Keep.drew ?_ | refine Keep.drewN ?_ _ | refine Keep.alloc ?_ _ | refine Keep.setNew ?_ (by omega) _)); done)).1.less (fun _ h => .inl h), (HS7.out.keep0 (by (repeat (first | exact Keep.refl _ _ | exact Keep.refl _ _ | refine Keep.drew ?_ | refine Keep.drewN ?_ _ | refine Keep.alloc ?_ _ | refine Keep.setNew ?_ (by omega) _)); done)).2⟩)⟩
              case measure => simp [intOf]; omega
    · obtain rfl : j = D.length := by omega
      rw [List.take_length] at HS HLA
      obtain ⟨⟨v, h1, h2, h3, -⟩, hk, -⟩ := HS.out
      have d0 := cell1 h2
      have H3 := Lib.hid h3
      have HK := Lib.hid hk
      clear h1 h2 h3 hk
      go_wp2
      go_ret
      exact ⟨v, D, rfl, HI.out, H3.out, Nat.le_trans HLA.out (by decide), HK.out⟩

end Go.Proofs.Ytnjcchgbkemekaa
