/- The reference's calls; New. -/
import Derived.Test.YtajjelfeldofgaaC
namespace Go.Proofs.Ytajjelfeldofgaa
open Go.RowKit Go.Own
set_option maxHeartbeats 400000 in
theorem rcount_any (B p : Nat) (v : Value) (L : List Int) (a : Int) (w : World) (hR : RepR w B p v L) :
    Calls Try.prog 15 #[.pointer (some ⟨p, 0, none⟩), .int .i64 a] w fun e w' => e = .returned (.int .i64 (L.count a)) ∧ w = w' := by
  obtain ⟨g, cap, rfl, _, hgp, hcap, hcells⟩ := hR.form
  have hc0 : w.cell? ⟨p, 0, none⟩ = some (.slice (some ⟨g, 0, none⟩) L.length cap) := by rw [cell_block hR.hp]; rfl
  have hl := hR.hi
  have HC := Lib.hid hcells
  clear hcells
  go_enter Try.func15, Try.ntmps15
  go_wp2
  go_loop [5, 6] (fun n i => ∃ k : Nat, k ≤ L.length ∧ i = .int .i64 k ∧ n = .int .i64 ((L.take k).count a : Nat)) (fun _ i => L.length - (intOf i).toNat)
  case atStart => exact ⟨0, by omega, rfl, rfl⟩
  case round =>
    obtain ⟨k, hk, rfl, rfl⟩ := hrel
    have hcell : k < L.length → w.cell? ⟨g, k, none⟩ = some (.int .i64 (gi L k)) := fun h => HC.out k h
    have hb : (L.take k).count a ≤ k := Nat.le_trans List.count_le_length (List.length_take_le _ _)
    by_cases hlt : k < L.length
    · have HT : Hid ((L.take (k + 1)).count a = (L.take k).count a + if gi L k = a then 1 else 0) := by
        show _ = _
        rw [gi_eq hlt, List.take_succ_eq_append_getElem hlt, List.count_append, List.count_singleton]
        simp
      go_wp2
      · have h2 : (gi L k == a) = true := by assumption
        go_round
        case rel => exact ⟨k + 1, by omega, by go_num, by rw [HT.out, if_pos (by simpa using h2)]; go_num⟩
        case measure => simp [intOf]; omega
      · have h2 : (gi L k == a) = false := by assumption
        go_round
        case rel => exact ⟨k + 1, by omega, by go_num, by rw [HT.out, if_neg (by simpa using h2)]; go_num⟩
        case measure => simp [intOf]; omega
    · go_wp2
      go_ret
      exact ⟨ret_int (by rw [List.take_of_length_le (by omega)]), rfl⟩

set_option maxHeartbeats 1000000 in
theorem rnext_any (B p : Nat) (v : Value) (L : List Int) (f a : Int) (w : World) (hR : RepR w B p v L) :
    Calls Try.prog 17 #[.pointer (some ⟨p, 0, none⟩), .int .i64 f, .int .i64 a] w fun e w' => e = .returned (.int .i64 (nextF L f a)) ∧ w = w' := by
  obtain ⟨g, cap, rfl, _, hgp, hcap, hcells⟩ := hR.form
  have hc0 : w.cell? ⟨p, 0, none⟩ = some (.slice (some ⟨g, 0, none⟩) L.length cap) := by rw [cell_block hR.hp]; rfl
  have hl := hR.hi
  have HC := Lib.hid hcells
  clear hcells
  go_enter Try.func17, Try.ntmps17
  go_wp2
  go_loop [7] (fun i => ∃ k : Nat, k ≤ L.length ∧ i = .int .i64 k ∧ nextF L f a = if (k : Int) ≤ f then nextF L f a else nextN L a k (L.length - k)) (fun i => L.length - (intOf i).toNat)
  case atStart => exact ⟨0, by omega, rfl, by
    by_cases h : (0 : Int) ≤ f
    · rw [if_pos (by simpa using h)]
    · rw [if_neg (by simpa using h)]; unfold nextF; rw [show f.toNat = 0 by omega]⟩
  case round =>
    obtain ⟨k, hk, rfl, hr⟩ := hrel
    have HR := Lib.hid hr
    clear hr
    have hcell : k < L.length → w.cell? ⟨g, k, none⟩ = some (.int .i64 (gi L k)) := fun h => HC.out k h
    have hat : k < L.length → f ≤ k → nextF L f a = nextN L a k (L.length - k) := fun h1 h2 => by
      by_cases c : (k : Int) ≤ f
      · unfold nextF; rw [show f.toNat = k by omega]
      · rw [HR.out, if_neg c]
    have HA := Lib.hid hat
    clear hat
    go_wp2
    case roundEnd =>
      have h1 : k < L.length := by assumption
      have h2 : f ≤ ↑k := by assumption
      have h3 : (gi L k == a) = false := by assumption
      go_round
      case rel => exact ⟨k + 1, by omega, by go_num, by rw [if_neg (by omega), HA.out h1 h2, nextN_miss (by omega) (by simpa using h3), Nat.sub_sub]⟩
      case measure => simp [intOf]; omega
    case roundEnd =>
      have h1 : k < L.length := by assumption
      have h2 : ¬ f ≤ ↑k := by assumption
      go_round
      case rel => exact ⟨k + 1, by omega, by go_num, by rw [if_pos (by omega)]⟩
      case measure => simp [intOf]; omega
    · have h1 : k < L.length := by assumption
      have h2 : f ≤ ↑k := by assumption
      have h3 : (gi L k == a) = true := by assumption
      go_ret
      exact ⟨ret_int (by rw [HA.out h1 h2, nextN_hit (by omega) (by simpa using h3)]), rfl⟩
    · have h1 : ¬ k < L.length := by assumption
      go_ret
      refine ⟨ret_int ?_, rfl⟩
      rw [HR.out]
      by_cases c : (k : Int) ≤ f
      · rw [if_pos c]; unfold nextF; rw [show L.length - f.toNat = 0 by omega]; rfl
      · rw [if_neg c, show L.length - k = 0 by omega]; rfl

set_option maxHeartbeats 400000 in
theorem rnew_no (n : Int) (w : World) (h : n < 8 ∨ 1024 < n) :
    Calls Try.prog 19 #[.int .i64 n] w fun e w' => e = .returned (.tuple #[.pointer none, .int .i64 2]) ∧ w = w' := by
  rcases h with h | h
  all_goals
    go_enter Try.func19, Try.ntmps19
    go_wp2
    go_ret2
    exact ⟨rfl, rfl⟩

set_option maxHeartbeats 400000 in
theorem rnew_yes (n : Nat) (B : Nat) (w : World) (hB : B ≤ w.heap.size) (h : 8 ≤ n) (h' : n ≤ 1024) :
    Calls Try.prog 19 #[.int .i64 n] w fun e w' => ∃ p v, e = .returned (.tuple #[.pointer (some ⟨p, 0, none⟩), .int .i64 0]) ∧ RepR w' B p v (List.replicate n 0) ∧ w.heap.size ≤ p ∧ Keep (fun _ => False) w w' := by
  obtain ⟨i0, hi, hz0, hz1, hz2⟩ := info_parts Try.info3'
  go_enter Try.func19, Try.ntmps19
  go_wp2_with (at_make; refine wpList_make_full _ rfl _ _ 31 rfl B 3 i0 (.int .i64 0) 1 Try.underlying31 hi hz0 hz1 .i64 .i64 n n n rfl rfl rfl rfl (by rw [hz2]; omega) (by unfold maxLen; omega) hB ?_; intro w1 hown hgrow)
  go_ret2
  have hsz := hgrow.size
  have hown' := hown.alloc (.cells #[Value.slice (some ⟨w.heap.size, 0, none⟩) n n] 33)
  obtain ⟨hfull, hge⟩ := ownsRow_full hown
  refine ⟨w1.heap.size, _, rfl, ⟨heap_alloc_new w1 _, ?_, ?_, by simpa using h, by simpa using h', ?_⟩, by omega, ((Keep.refl _ _).grown hgrow (by simp)).alloc _⟩
  · rw [List.length_replicate, List.map_replicate]
    rw [Nat.mul_one] at hown'; erw [toList_madeCells_one] at hown'
    exact hown'
  · have := block_lt hfull
    simp [Value.ownBlock]; omega
  · intro x hx; rw [List.mem_replicate] at hx; omega

set_option maxHeartbeats 400000 in
theorem new_no (n : Int) (w : World) (h : n < 8 ∨ 1024 < n) :
    Calls Try.prog 18 #[.int .i64 n] w fun e w' => e = .returned (.tuple #[.pointer none, .int .i64 2]) ∧ w = w' := by
  rcases h with h | h
  all_goals
    go_enter Try.func18, Try.ntmps18
    go_wp2
    go_ret2
    exact ⟨rfl, rfl⟩

set_option maxHeartbeats 400000 in
theorem new_yes (n : Nat) (w : World) (h : 8 ≤ n) (h' : n ≤ 1024) :
    Calls Try.prog 18 #[.int .i64 n] w fun e w' => ∃ p q, e = .returned (.tuple #[.pointer (some ⟨p, 0, none⟩), .int .i64 0]) ∧ RepF w' p q (List.replicate n 0) ∧ w.heap.size ≤ p ∧ w.heap.size ≤ q ∧ Keep (fun _ => False) w w' := by
  obtain ⟨i0, hi, hz0, hz1, hz2⟩ := info_parts Try.info3'
  go_enter Try.func18, Try.ntmps18
  go_wp2_with (at_make; refine wpList_make_full _ rfl _ _ 31 rfl w.heap.size 3 i0 (.int .i64 0) 1 Try.underlying31 hi hz0 hz1 .i64 .i64 n n n rfl rfl rfl rfl (by rw [hz2]; omega) (by unfold maxLen; omega) (Nat.le_refl _) ?_; intro w1 hown hgrow)
  go_ret2
  have hsz := hgrow.size
  obtain ⟨hfull, hge⟩ := ownsRow_full hown
  have hlt := block_lt hfull
  refine ⟨w1.heap.size, w.heap.size, rfl, ⟨?_, ?_, by omega, by simpa using h, by simpa using h', ?_⟩, by omega, by omega, ((Keep.refl _ _).grown hgrow (by simp)).alloc _⟩
  · show ((w1.alloc _).heap[w1.heap.size]? = _)
    rw [heap_alloc_new]
    simp [cnts, cnt, List.count_replicate]
  · show ((w1.alloc _).heap[w.heap.size]? = _)
    rw [Below.heap_alloc _ _ _ hlt, hfull, Nat.mul_one]
    erw [toList_madeCells_one]
    rw [rowI, List.map_replicate]
  · intro x hx; rw [List.mem_replicate] at hx; omega

end Go.Proofs.Ytajjelfeldofgaa
