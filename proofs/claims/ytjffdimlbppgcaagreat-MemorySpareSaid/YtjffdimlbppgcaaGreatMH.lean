/- Memory: the links are kept; the pair of calls. -/
import Derived.Test.YtjffdimlbppgcaaGreatMG
set_option linter.unusedVariables false
set_option linter.unusedSimpArgs false
namespace Go.Proofs.YtjffdimlbppgcaaGreat
open Go.RowKit Go.Own

theorem fill_mem {L : List Int} {f p : Nat} {b : Int} (h : ∀ x, x ∈ L → 0 ≤ x ∧ x < 6) (hb : 0 ≤ b ∧ b < 6) : ∀ x, x ∈ Fr.fillN L f b p → 0 ≤ x ∧ x < 6 := Fr.mem_fillN h hb p
theorem zerW_lt {W : Nat → Nat} {f p m : Nat} (h : ∀ i, i < m → W i < 18446744073709551616) : ∀ i, i < m → zerW W f p i < 18446744073709551616 := fun i hi => by
  unfold zerW
  split
  · decide
  · exact h i hi
theorem lk_give {n a o is : Nat} {P : PS} {M : Nat → Int} (h : Lk n P) (ha : a + 2 ^ o ≤ n) (hM : ∀ i, i < sec n → 0 ≤ M i ∧ M i ≤ 3) (h1 : 1 ≤ is) (h5 : is ≤ 5) : Lk n (gvn P a o is (subB P.F o a) M) := by
  refine ⟨fun i hi => ?_, hM, ?_, fill_mem h.st (by omega), fun i hi => h.fin i (((subB_iff _ _ _ _).mp hi).1), zerW_lt h.wd⟩
  · show (subB P.F o a i = true ↔ gi (Fr.fillN P.L a (is : Int) (2 ^ o)) i = 0)
    rw [Fr.gi_fillN _ _ _ _ _ (by rw [h.ln]; exact ha), subB_iff]
    by_cases hc : a ≤ i ∧ i < a + 2 ^ o
    · rw [if_pos hc]
      constructor
      · exact fun e => absurd hc e.2
      · intro e; omega
    · rw [if_neg hc]
      exact ⟨fun e => (h.fr i hi).mp e.1, fun e => ⟨(h.fr i hi).mpr e, hc⟩⟩
  · show (Fr.fillN P.L a (is : Int) (2 ^ o)).length = n
    rw [Fr.fillN_length]; exact h.ln
theorem lk_drop {n a o : Nat} {P : PS} (h : Lk n P) (ha : a + 2 ^ o ≤ n) : Lk n ⟨addB P.F o a, P.M, Fr.fillN P.L a 0 (2 ^ o), P.W⟩ := by
  refine ⟨fun i hi => ?_, h.kd, ?_, fill_mem h.st (by omega), fun i hi => ?_, h.wd⟩
  · show (addB P.F o a i = true ↔ gi (Fr.fillN P.L a 0 (2 ^ o)) i = 0)
    rw [Fr.gi_fillN _ _ _ _ _ (by rw [h.ln]; exact ha), addB_iff]
    by_cases hc : a ≤ i ∧ i < a + 2 ^ o
    · rw [if_pos hc]; exact ⟨fun _ => rfl, fun _ => .inr hc⟩
    · rw [if_neg hc]
      exact ⟨fun e => e.elim (h.fr i hi).mp (fun e => absurd e hc), fun e => .inl ((h.fr i hi).mpr e)⟩
  · show (Fr.fillN P.L a 0 (2 ^ o)).length = n
    rw [Fr.fillN_length]; exact h.ln
  · rcases (addB_iff _ _ _ _).mp hi with e | e
    · exact h.fin i e
    · omega
theorem tkM_ok {M : Nat → Int} {o x : Int} {y : Bk} {own : Bool} {n : Nat} (h : ∀ i, i < n → 0 ≤ M i ∧ M i ≤ 3) (hx : x = 0 ∨ x = 1 ∨ x = 2) : ∀ i, i < n → 0 ≤ tkM M o x y own i ∧ tkM M o x y own i ≤ 3 := fun i hi => by
  unfold tkM
  split
  · omega
  · exact h i hi
theorem BlkR.lk {A : Ad} {P P1 : PS} {o x is : Int} {E : Value} (h : BlkR A P o x is E P1) (k : Lk A.n P) : Lk A.n P1 := by
  rcases h with ⟨_, _, rfl⟩ | ⟨_, _, _, rfl⟩ | ⟨hb, _, D, hD, ⟨_, _, rfl⟩ | ⟨y, own, ht, _, rfl⟩⟩
  · exact k
  · exact k
  · exact k
  · unfold badB at hb
    obtain ⟨q, rfl⟩ := Int.eq_ofNat_of_zero_le (show 0 ≤ o by omega)
    obtain ⟨is, rfl⟩ := Int.eq_ofNat_of_zero_le (show 0 ≤ is by omega)
    obtain ⟨⟨a, j, rfl, hj, _, hbk, hend⟩, hok⟩ := tkP_fine hD k.fin ht
    have hle : 2 ^ q ≤ 2 ^ j := Nat.pow_le_pow_right (by decide) (by simpa using hok)
    exact lk_give k (by simp; omega) (tkM_ok k.kd (by omega)) (by simp; omega) (by simp; omega)
theorem AtR.lk {A : Ad} {P P1 : PS} {f o is : Int} {E : Value} (h : AtR A P f o is E P1) (k : Lk A.n P) : Lk A.n P1 := by
  rcases h with ⟨_, _, rfl⟩ | ⟨_, _, _, rfl⟩ | ⟨hi, hw, f', o', rfl, rfl, ⟨_, _, rfl⟩ | ⟨hb, _, rfl⟩⟩
  · exact k
  · exact k
  · exact k
  · obtain ⟨f2, o2, e1, e2, ho, _, hn⟩ := wrE_ok hw
    obtain rfl : f' = f2 := by omega
    obtain rfl : o' = o2 := by omega
    exact lk_give k hn k.kd (by omega) (by omega)
theorem DrR.lk {A : Ad} {P P1 : PS} {f o : Int} {E : Value} (h : DrR A P f o E P1) (k : Lk A.n P) : Lk A.n P1 := by
  rcases h with ⟨_, _, rfl⟩ | ⟨hw, f', o', rfl, rfl, ⟨_, _, rfl⟩ | ⟨hb, _, rfl⟩⟩
  · exact k
  · exact k
  · obtain ⟨f2, o2, e1, e2, ho, _, hn⟩ := wrE_ok hw
    obtain rfl : f' = f2 := by omega
    obtain rfl : o' = o2 := by omega
    exact lk_drop k hn
theorem turnE_zero {L : List Int} {f n a b : Int} (h : Fr.turnE L f n a b = 0) : ∃ f' n' : Nat, f = f' ∧ n = n' ∧ 1 ≤ n' ∧ f' + n' ≤ L.length ∧ 0 ≤ a ∧ a < 6 ∧ 0 ≤ b ∧ b < 6 ∧ Fr.allAre L f' n' a := by
  unfold Fr.turnE at h
  split at h
  · omega
  · rename_i h1
    rw [Fr.stateB_iff_f, Fr.stateB_iff_f] at h1
    split at h
    · omega
    · rename_i h2
      split at h
      · omega
      · split at h
        · rename_i h4
          exact ⟨f.toNat, n.toNat, by omega, by omega, by omega, by omega, by omega, by omega, by omega, by omega, h4⟩
        · omega
theorem TuR.lk {A : Ad} {P P1 : PS} {f n a b : Int} {E : Value} (h : TuR P f n a b E P1) (k : Lk A.n P) : Lk A.n P1 := by
  rcases h with ⟨_, _, rfl⟩ | ⟨hab, _, rfl⟩
  · exact k
  · by_cases he : Fr.turnE P.L f n a b = 0
    · obtain ⟨f', n', rfl, rfl, h1, h2, h3, h4, h5, h6, h7⟩ := turnE_zero he
      have e : Fr.turnL P.L (f' : Int) (n' : Int) a b = Fr.fillN P.L f' b n' := by unfold Fr.turnL; rw [if_pos he]; simp
      refine ⟨fun i hi => ?_, k.kd, ?_, ?_, k.fin, k.wd⟩
      · show (P.F i = true ↔ gi (Fr.turnL P.L (f' : Int) (n' : Int) a b) i = 0)
        rw [e, Fr.gi_fillN _ _ _ _ _ h2]
        by_cases hc : f' ≤ i ∧ i < f' + n'
        · rw [if_pos hc, k.fr i hi]
          have := h7 (i - f') (by omega)
          rw [show f' + (i - f') = i by omega] at this
          omega
        · rw [if_neg hc]; exact k.fr i hi
      · show (Fr.turnL P.L (f' : Int) (n' : Int) a b).length = _
        rw [e, Fr.fillN_length]; exact k.ln
      · show ∀ x, x ∈ Fr.turnL P.L (f' : Int) (n' : Int) a b → _
        rw [e]; exact fill_mem k.st ⟨h5, h6⟩
    · have e : Fr.turnL P.L f n a b = P.L := by unfold Fr.turnL; rw [if_neg he]
      rw [e]; exact k
theorem SeR.lk {A : Ad} {P P1 : PS} {i y : Int} {E : Value} (h : SeR A P i y E P1) (k : Lk A.n P) : Lk A.n P1 := by
  rcases h with ⟨_, _, rfl⟩ | ⟨_, _, _, rfl⟩ | ⟨hi, hy, _, rfl⟩
  · exact k
  · exact k
  · refine ⟨k.fr, fun j hj => ?_, k.ln, k.st, k.fin, k.wd⟩
    show 0 ≤ setM P.M i.toNat y j ∧ setM P.M i.toNat y j ≤ 3
    unfold setM
    split
    · omega
    · exact k.kd j hj
theorem st_lk {n i v : Nat} {P : PS} (k : Lk n P) (hv : v < 18446744073709551616) : Lk n { P with W := setW P.W i v } := by
  refine ⟨k.fr, k.kd, k.ln, k.st, k.fin, fun j hj => ?_⟩
  show setW P.W i v j < _
  unfold setW
  split
  · exact hv
  · exact k.wd j hj
/-- Both, and their links. -/
def BoE (w : World) (A : Ad) (P P' : PS) : Prop := (∃ N iv, Bo w A N iv P P') ∧ Lk A.n P ∧ Lk A.n P'
theorem BoE.keep0 {w w' : World} {A : Ad} {P P' : PS} (h : BoE w A P P') (k : Keep (fun _ => False) w w') : BoE w' A P P' := by
  obtain ⟨⟨N, iv, h1⟩, h2⟩ := h
  exact ⟨⟨N, iv, h1.keep0 k⟩, h2⟩
theorem pair {f f' : Nat} {args args' : Array Value} {w : World} {A : Ad} {P : PS} (R : Value → PS → Prop) (hfn : ∀ E P1 E' P2, R E P1 → R E' P2 → E = E' ∧ P1 = P2) (hlk : ∀ E P1, R E P1 → Lk A.n P1)
    (hp : ∀ N, Mo w A N P → Calls Tryz.prog f args w fun e w' => ∃ E P1, e = .returned E ∧ R E P1 ∧ Mo w' A N P1 ∧ Keep (PC A N w) w w')
    (hr : ∀ w2 iv, Mx w2 A iv P → A.mark ≤ A.n → A.B ≤ w2.heap.size → Calls Tryz.prog f' args' w2 fun e w' => ∃ E P1 iv', e = .returned E ∧ R E P1 ∧ Mx w' A iv' P1 ∧ Keep (RC A iv) w2 w' ∧ (∀ z, iv'.ownBlock = some z → iv.ownBlock = some z ∨ w2.heap.size ≤ z))
    (h : BoE w A P P) : Calls Tryz.prog f args w fun e w1 => ∃ E P1, e = .returned E ∧ R E P1 ∧ BoE w1 A P1 P ∧ KM A w w1 ∧ (∀ w2, BoE w2 A P1 P → Calls Tryz.prog f' args' w2 fun e w3 => e = .returned E ∧ BoE w3 A P1 P1 ∧ KM A w2 w3) := by
  obtain ⟨⟨N, iv, hb⟩, hl, _⟩ := h
  refine (hp N hb.mo).mono ?_
  rintro e w1 ⟨E, P1, rfl, hR, hm, hk⟩
  obtain ⟨h1, h2⟩ := hb.prog hm hk
  refine ⟨E, P1, rfl, hR, ⟨⟨N, iv, h1⟩, hlk _ _ hR, hl⟩, h2, ?_⟩
  rintro w2 ⟨⟨N2, iv2, hb2⟩, _⟩
  refine (hr w2 iv2 hb2.mx hb2.mo.mk8 hb2.mo.ko.hB).mono ?_
  rintro e w3 ⟨E', P2, iv', rfl, hR', hm', hk', hv'⟩
  obtain ⟨rfl, rfl⟩ := hfn _ _ _ _ hR hR'
  obtain ⟨⟨N3, h3⟩, h4⟩ := hb2.ref hm' hk' hv'
  exact ⟨rfl, ⟨⟨N3, iv', h3⟩, hlk _ _ hR, hlk _ _ hR⟩, h4⟩

end Go.Proofs.YtjffdimlbppgcaaGreat
