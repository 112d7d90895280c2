/- The reference's Turn. -/
import Derived.Test.YtajjelfeldofgaaD
import Derived.Test.YtajjelfeldofgaaM
import Derived.Deep.AppendLies
namespace Go.Proofs.Ytajjelfeldofgaa
open Go.RowKit Go.Own

theorem own_form {w : World} {B e size n : Nat} {v : Value} {xs : List Value} (h : w.ownsRow B e size v n xs) (hn : 0 < n) :
    ∃ g cap, v = .slice (some ⟨g, 0, none⟩) n cap ∧ B ≤ g := by
  rcases h.2 with ⟨_, h0⟩ | ⟨g, cap, cur, rfl, hB, _⟩
  · omega
  · exact ⟨g, cap, rfl, hB⟩
theorem cell_alloc_lt {w : World} {o : Obj} {g i : Nat} (h : g < w.heap.size) : (w.alloc o).cell? ⟨g, i, none⟩ = w.cell? ⟨g, i, none⟩ := by apply World.cell?_alloc_past; exact h
theorem ints_at {w : World} {g : Nat} {L : List Int} (h : ∀ i, i < L.length → w.cell? ⟨g, i, none⟩ = some (.int .i64 (gi L i))) :
    ∀ j u, (L.map (Value.int .i64))[j]? = some u → w.cell? ((⟨g, 0, none⟩ : Addr).add j) = some u := by
  intro j u hu
  rw [List.getElem?_map] at hu
  have hj : j < L.length := by
    rcases Nat.lt_or_ge j L.length with h1 | h1
    · exact h1
    · rw [List.getElem?_eq_none h1] at hu; simp at hu
  rw [Addr.add_lit, Nat.zero_add, h j hj, gi_eq hj]
  simpa [hj] using hu

set_option maxHeartbeats 400000 in
theorem rturn_arg (p : Nat) (f n a b : Int) (w : World) (h : n < 1 ∨ (1 ≤ n ∧ (a < 0 ∨ 6 ≤ a)) ∨ (1 ≤ n ∧ 0 ≤ a ∧ a < 6 ∧ (b < 0 ∨ 6 ≤ b))) :
    Calls Try.prog 20 #[.pointer (some ⟨p, 0, none⟩), .int .i64 f, .int .i64 n, .int .i64 a, .int .i64 b] w fun e w' => e = .returned (.int .i64 2) ∧ w = w' := by
  rcases h with h | ⟨h1, h | h⟩ | ⟨h1, h2, h3, h | h⟩
  all_goals
    go_enter Try.func20, Try.ntmps20
    go_wp2
    go_ret
    exact ⟨rfl, rfl⟩

set_option maxHeartbeats 400000 in
theorem rturn_range (B p : Nat) (v : Value) (L : List Int) (f n a b : Int) (w : World) (hR : RepR w B p v L)
  (h1 : 1 ≤ n) (h2 : 0 ≤ a) (h3 : a < 6) (h4 : 0 ≤ b) (h5 : b < 6) (h6 : f < 0 ∨ (0 ≤ f ∧ (L.length : Int) ≤ f) ∨ (0 ≤ f ∧ f < L.length ∧ (L.length : Int) - f < n)) :
    Calls Try.prog 20 #[.pointer (some ⟨p, 0, none⟩), .int .i64 f, .int .i64 n, .int .i64 a, .int .i64 b] w fun e w' => e = .returned (.int .i64 3) ∧ w = w' := by
  obtain ⟨g, cap, rfl, _, hgp, hcap, hcells⟩ := hR.form
  have hc0 : w.cell? ⟨p, 0, none⟩ = some (.slice (some ⟨g, 0, none⟩) L.length cap) := by rw [cell_block hR.hp]; rfl
  have hl := hR.hi
  clear hcells
  rcases h6 with h6 | ⟨h6, h7⟩ | ⟨h6, h7, h8⟩
  all_goals
    go_enter Try.func20, Try.ntmps20
    go_wp2
    go_ret
    exact ⟨rfl, rfl⟩

set_option maxHeartbeats 1000000 in
theorem rturn_go (B p : Nat) (v : Value) (L : List Int) (f n a b : Nat) (w : World) (hB : B ≤ w.heap.size) (hR : RepR w B p v L)
  (h1 : 1 ≤ n) (h3 : a < 6) (h5 : b < 6) (h8 : f + n ≤ L.length) :
    Calls Try.prog 20 #[.pointer (some ⟨p, 0, none⟩), .int .i64 f, .int .i64 n, .int .i64 a, .int .i64 b] w fun e w' =>
      (mayB a b = false ∧ e = .returned (.int .i64 5) ∧ Keep (fun _ => False) w w') ∨
      (mayB a b = true ∧ ¬ allAre L f n a ∧ e = .returned (.int .i64 12) ∧ Keep (fun _ => False) w w') ∨
      (mayB a b = true ∧ allAre L f n a ∧ e = .returned (.int .i64 0) ∧ Keep (fun x => x = p) w w' ∧ ∃ v', RepR w' B p v' (fillN L f b n) ∧ (∀ k, v'.ownBlock = some k → w.heap.size ≤ k)) := by
  obtain ⟨g, cap, rfl, hBg, hgp, hcap, hcells⟩ := hR.form
  have hc0 : w.cell? ⟨p, 0, none⟩ = some (.slice (some ⟨g, 0, none⟩) L.length cap) := by rw [cell_block hR.hp]; rfl
  have hl := hR.hi
  have hlo := hR.lo
  have HC := Lib.hid hcells
  clear hcells
  obtain ⟨i0, hi, hz0, hz1, hz2⟩ := info_parts Try.info3'
  have hg : g < w.heap.size := hR.hv.lt g rfl |>.2
  have hf0 : (0 : Int) ≤ f := by omega
  have hfl : f < L.length := by omega
  have hnl : (n : Int) ≤ (L.length : Int) - f := by omega
  have ha0 : (0 : Int) ≤ a := by omega
  have ha5 : (a : Int) ≤ 5 := by omega
  have hb0 : (0 : Int) ≤ b := by omega
  have hb5 : (b : Int) ≤ 5 := by omega
  have hpl := block_lt hR.hp
  by_cases hm : mayB a b = true
  case neg =>
    have hm' : mayB a b = false := by simpa using hm
    go_enter Try.func20, Try.ntmps20
    go_wp2_with (go_at_call 23; refine (rmay_any _ _ _ h3 h5).mono ?_; rintro e w1 ⟨rfl, hk1⟩)
    go_ret
    exact .inl ⟨hm', rfl, hk1⟩
  go_enter Try.func20, Try.ntmps20
  go_wp2_with (first | (go_at_call 23; refine (rmay_any _ _ _ h3 h5).mono ?_; rintro e w1 ⟨rfl, hk1⟩; have hc1 := (hk1.cell (i := 0) hpl id).trans hc0; have hpl1 := Nat.lt_of_lt_of_le hpl hk1.size; have hgl1 := Nat.lt_of_lt_of_le hg hk1.size; have HC1 := Lib.hid (fun (o : Obj) (i : Nat) (hi : i < L.length) => (cell_alloc_lt (o := o) (i := i) hgl1).trans ((hk1.cell hg id).trans (HC.out i hi)))) | (at_builtin; refine wpList_append_own _ rfl _ _ 31 rfl w1.heap.size 3 i0 (.int .i64 0) 1 8 Try.underlying31 hi hz0 hz1 hz2 rfl (by decide) (.slice (some ⟨w1.heap.size, 0, none⟩) 0 0) 0 [] rfl (World.ownsRow_lit _ #[] 0 (Nat.le_refl _) (by decide) rfl) ⟨g, 0, none⟩ L.length cap (L.map (Value.int .i64)) rfl (by simp) (ints_at (HC1.out _)) (ints_oneCell _ _) (by unfold maxLen; omega) (by omega) (by simp) ?_; intro v1 w2 hown hgrow _; obtain ⟨g1, cap1, rfl, hg1⟩ := own_form hown (by omega); simp only [Nat.zero_add, List.nil_append] at hown; have HO := Lib.hid hown; have HG := Lib.hid hgrow; clear hown hgrow))
  have hsz1 := hk1.size
  have hg1w : w.heap.size ≤ g1 := by omega
  have HB := Lib.hid (ownsRow_base HO.out (C := w.heap.size) (fun k hk => by simp [Value.ownBlock] at hk; omega))
  have HK2 : Hid (Keep (fun _ => False) w w2) := ((hk1.alloc (.cells #[] 3)).grown HG.out (fun k hk hlt => by simp [Value.ownBlock] at hk; omega))
  go_loopw [12] (fun i wr => ∃ k : Nat, k ≤ n ∧ i = .int .i64 (f + k : Nat) ∧ allAre L f k a ∧ wr.ownsRow w.heap.size 3 1 (.slice (some ⟨g1, 0, none⟩) L.length cap1) L.length ((fillN L f b k).map (Value.int .i64)) ∧ Keep (fun _ => False) w wr) (fun i _ => f + n - (intOf i).toNat)
  case atStart => exact ⟨0, by omega, rfl, fun j hj => by omega, HB.out, HK2.out⟩
  case round =>
    obtain ⟨k, hk, rfl, hall, hown, hkeep⟩ := hrel
    have hcell : k < n → wr.cell? ⟨g1, f + k, none⟩ = some (.int .i64 (gi L (f + k))) := fun h => by
      rw [hown.cellAt _ (by omega), List.getElem?_map, List.getElem?_eq_getElem (by rw [fillN_length]; omega), ← gi_eq, gi_fillN _ _ _ _ _ (by omega), if_neg (by omega)]; rfl
    have hfz : wr.frozen? ⟨g1, f + k, none⟩ = false := hown.frozenAt _
    have hcp : wr.cell? ⟨p, 0, none⟩ = some (.slice (some ⟨g, 0, none⟩) L.length cap) := (hkeep.cell hpl id).trans hc0
    have hfp : wr.frozen? ⟨p, 0, none⟩ = false := (hkeep.frozen hpl id).trans (frozen_block hR.hp)
    have HW := Lib.hid hown
    have HL := Lib.hid hall
    clear hown hall
    by_cases hlt : k < n
    · have hcell' := hcell hlt
      clear hcell
      go_wp2
      · have hne : (gi L (f + k) != (a : Int)) = true := by assumption
        go_ret
        exact .inr (.inl ⟨hm, fun h => by have := h k hlt; simp [this] at hne, rfl, hkeep⟩)
      · have hne : (gi L (f + k) != (a : Int)) = false := by assumption
        go_roundw
        case rel =>
          refine ⟨k + 1, by omega, by go_num, fun j hj => ?_, ?_, hkeep.setCell (fun h => ?_) _⟩
          · by_cases e : j = k
            · subst e; simpa using hne
            · exact HL.out j (by omega)
          · have := (HW.out.stored (f + k) (.int .i64 b)).1
            simpa [fillN, List.map_set] using this
          · simp at h; omega
        case measure => simp [intOf]; omega
    · obtain rfl : k = n := by omega
      clear hcell
      go_wp2
      go_ret
      refine .inr (.inr ⟨hm, HL.out, rfl, (hkeep.mono (T := fun x => x = p) (fun _ _ h => h.elim)).setCell (fun _ => rfl) _, _, ⟨heap_setCell_eq ((hkeep.block p hpl id).trans hR.hp), ?_, ?_, ?_, ?_, mem_fillN hR.st (by omega) k⟩, ?_⟩)
      · rw [fillN_length]
        exact ((Keep.refl (fun x => x = p) wr).setCell (p := ⟨p, 0, none⟩) (fun _ => rfl) _).own (ownsRow_base HW.out (fun k hk => by simp [Value.ownBlock] at hk; omega)) (fun k hk => by simp [Value.ownBlock] at hk; omega)
      · simp [Value.ownBlock]; omega
      · rw [fillN_length]; exact hlo
      · rw [fillN_length]; exact hl
      · intro k hk; simp [Value.ownBlock] at hk; omega

theorem rturn_any (B p : Nat) (v : Value) (L : List Int) (f n a b : Int) (w : World) (hB : B ≤ w.heap.size) (hR : RepR w B p v L) :
    Calls Try.prog 20 #[.pointer (some ⟨p, 0, none⟩), .int .i64 f, .int .i64 n, .int .i64 a, .int .i64 b] w fun e w' =>
      e = .returned (.int .i64 (turnE L f n a b)) ∧ Keep (fun x => x = p) w w' ∧ ∃ v', RepR w' B p v' (turnL L f n a b) ∧ (∀ k, v'.ownBlock = some k → v.ownBlock = some k ∨ w.heap.size ≤ k) := by
  have same : ∀ k, turnE L f n a b = k → k ≠ 0 → ∀ e w', (e = Ending.returned (.int .i64 k) ∧ Keep (fun _ => False) w w') →
      e = .returned (.int .i64 (turnE L f n a b)) ∧ Keep (fun x => x = p) w w' ∧ ∃ v', RepR w' B p v' (turnL L f n a b) ∧ (∀ k, v'.ownBlock = some k → v.ownBlock = some k ∨ w.heap.size ≤ k) := by
    rintro k hk h0 e w' ⟨rfl, hkeep⟩
    refine ⟨by rw [hk], hkeep.mono (fun _ _ h => h.elim), v, ?_, fun _ h => .inl h⟩
    unfold turnL; rw [if_neg (by rw [hk]; exact h0)]
    exact ⟨(hkeep.block p (block_lt hR.hp) id).trans hR.hp, hkeep.own hR.hv (fun _ _ h => h), hR.ne, hR.lo, hR.hi, hR.st⟩
  have same' : ∀ k, turnE L f n a b = k → k ≠ 0 → ∀ e w', (e = Ending.returned (.int .i64 k) ∧ w = w') →
      e = .returned (.int .i64 (turnE L f n a b)) ∧ Keep (fun x => x = p) w w' ∧ ∃ v', RepR w' B p v' (turnL L f n a b) ∧ (∀ k, v'.ownBlock = some k → v.ownBlock = some k ∨ w.heap.size ≤ k) := by
    rintro k hk h0 e w' ⟨rfl, rfl⟩
    exact same k hk h0 _ _ ⟨rfl, Keep.refl _ _⟩
  by_cases c1 : n < 1 ∨ stateB a = false ∨ stateB b = false
  · refine (rturn_arg p f n a b w ?_).mono (same' 2 (by unfold turnE; rw [if_pos c1]) (by decide))
    rw [stateB_iff_f, stateB_iff_f] at c1; omega
  · have c1' := c1
    rw [stateB_iff_f, stateB_iff_f] at c1'
    by_cases c2 : f < 0 ∨ (L.length : Int) ≤ f ∨ (L.length : Int) - f < n
    · exact (rturn_range B p v L f n a b w hR (by omega) (by omega) (by omega) (by omega) (by omega) (by omega)).mono
        (same' 3 (by unfold turnE; rw [if_neg c1, if_pos c2]) (by decide))
    · obtain ⟨f, rfl⟩ := Int.eq_ofNat_of_zero_le (show 0 ≤ f by omega)
      obtain ⟨n, rfl⟩ := Int.eq_ofNat_of_zero_le (show 0 ≤ n by omega)
      obtain ⟨a, rfl⟩ := Int.eq_ofNat_of_zero_le (show 0 ≤ a by omega)
      obtain ⟨b, rfl⟩ := Int.eq_ofNat_of_zero_le (show 0 ≤ b by omega)
      refine (rturn_go B p v L f n a b w hB hR (by omega) (by omega) (by omega) (by omega)).mono ?_
      rintro e w' (⟨h1, rfl, h3⟩ | ⟨h1, h2, rfl, h3⟩ | ⟨h1, h2, rfl, h3, v', h4, h5⟩)
      · exact same 5 (by unfold turnE; rw [if_neg c1, if_neg c2, if_pos h1]) (by decide) _ _ ⟨rfl, h3⟩
      · exact same 12 (by unfold turnE; rw [if_neg c1, if_neg c2, if_neg (by simp [h1]), if_neg (by simpa using h2)]) (by decide) _ _ ⟨rfl, h3⟩
      · have e1 : turnE L f n a b = 0 := by unfold turnE; rw [if_neg c1, if_neg c2, if_neg (by simp [h1]), if_pos (by simpa using h2)]
        refine ⟨by rw [e1], h3, v', ?_, fun k h => .inr (h5 k h)⟩
        unfold turnL; rw [if_pos e1]; exact h4

end Go.Proofs.Ytajjelfeldofgaa
