/- Buddy: what both say of themselves. -/
import Derived.Test.YtcbkfilhgeeebaaAT
import Derived.ProofKit
set_option linter.unusedVariables false
set_option linter.unusedSimpArgs false
namespace Go.Proofs.Ytcbkfilhgeeebaa
open Go.RowKit Go.Own

/-- k is the greatest order of a free block, -1 if there is none. -/
def GrI (F : Nat → Bool) (k : Int) : Prop := (∃ q b : Nat, mx F q b ∧ (∀ j a, mx F j a → j ≤ q) ∧ k = q) ∨ ((∀ q b, ¬ mx F q b) ∧ k = -1)
theorem grI_uniq {F : Nat → Bool} {k k' : Int} (h : GrI F k) (h' : GrI F k') : k = k' := by
  rcases h with ⟨q, b, h1, h2, rfl⟩ | ⟨h1, rfl⟩ <;> rcases h' with ⟨q', b', h1', h2', rfl⟩ | ⟨h1', rfl⟩
  · have := h2 _ _ h1'; have := h2' _ _ h1; omega
  · exact absurd h1 (h1' _ _)
  · exact absurd h1' (h1 _ _)
  · rfl
section
variable {w : World} {B p x g n : Nat} {F : Nat → Bool}
theorem two_free (h : Two w B p x g n F) : Calls Try.prog 23 #[.pointer (some ⟨p, 0, none⟩)] w fun e w' => e = .returned (.int .i64 (cnt F n : Nat)) ∧ Keep (fun _ => False) w w' := by
  obtain ⟨S, h1, _⟩ := h.1
  exact free_any h1
theorem two_rfree (h : Two w B p x g n F) : Calls Try.prog 24 #[.pointer (some ⟨x, 0, none⟩)] w fun e w' => e = .returned (.int .i64 (cnt F n : Nat)) ∧ Keep (fun _ => False) w w' := by
  refine (rfree_any h.2.1 h.1.n1024).mono ?_
  rintro e w' ⟨rfl, rfl⟩
  exact ⟨rfl, Keep.refl _ _⟩
theorem two_great (h : Two w B p x g n F) : Calls Try.prog 25 #[.pointer (some ⟨p, 0, none⟩)] w fun e w' => ∃ k, GrI F k ∧ e = .returned (.int .i64 k) ∧ Keep (fun _ => False) w w' := by
  refine (great_any h.1).mono ?_
  rintro e w' ⟨⟨k, b, h1, h2, rfl⟩ | ⟨h1, rfl⟩, hk⟩
  · exact ⟨_, .inl ⟨k, b, h1, fun j a hm => by
      rcases Nat.lt_or_ge k j with h | h
      · exact absurd hm (h2 j a h)
      · exact h, rfl⟩, rfl, hk⟩
  · exact ⟨_, .inr ⟨h1, rfl⟩, rfl, hk⟩
theorem two_rgreat (h : Two w B p x g n F) : Calls Try.prog 26 #[.pointer (some ⟨x, 0, none⟩)] w fun e w' => ∃ k, GrI F k ∧ e = .returned (.int .i64 k) ∧ Keep (fun _ => False) w w' := by
  refine (rgreat_any h.2.1 h.1.n1024 h.1.fin).mono ?_
  rintro e w' ⟨⟨q, b, h1, h2, rfl⟩ | ⟨h1, rfl⟩, hk⟩
  · exact ⟨_, .inl ⟨q, b, h1, h2, rfl⟩, rfl, hk⟩
  · exact ⟨_, .inr ⟨h1, rfl⟩, rfl, hk⟩
theorem two_has {f : Nat} (h : Two w B p x g n F) (hf : f < n) : Calls Try.prog 15 #[.pointer (some ⟨p, 0, none⟩), .int .i64 (f : Int)] w fun e w' => e = .returned (.bool (F f)) ∧ Keep (fun _ => False) w w' := by
  obtain ⟨S, h1, h2, _⟩ := h.1
  exact has_in h1 h2 hf
theorem two_out {f : Int} (h : Two w B p x g n F) (hf : f < 0 ∨ (n : Int) ≤ f) : Calls Try.prog 15 #[.pointer (some ⟨p, 0, none⟩), .int .i64 f] w fun e w' => e = .returned (.bool false) ∧ Keep (fun _ => False) w w' := by
  obtain ⟨S, h1, _⟩ := h.1
  exact has_out f h1 hf
end
theorem two_same {w : World} {F : Nat → Bool} {B C : Nat} {v u : Value} {X Y : List Bk} (hX : IsBl F X) (hY : IsBl F Y) (hv : OwnL bkE w B 55 v X) (hu : OwnL bkE w C 55 u Y) (hl : X.length ≤ 10000) :
    Calls Try.prog 21 #[v, u] w fun e w' => e = .returned (.bool true) ∧ Keep (fun _ => False) w w' := by
  have e : X = Y := isBl_uniq (F := F) hX.1 hY.1 fun z => (hX.2 z).trans (hY.2 z).symm
  subst e
  exact same_bk B C v u X w hv hu (by omega)
/-- The cells of the world and of a call. -/
abbrev WA (q p x b o i : Nat) (yk yf yo yn : Int) (yh : Bool) (w : World) : Prop := w.cell? ⟨q, 0, none⟩ = some (.pointer (some ⟨p, 0, none⟩)) ∧ w.cell? ⟨q, 1, none⟩ = some (.pointer (some ⟨x, 0, none⟩)) ∧
  w.cell? ⟨b, o + i * 5, none⟩ = some (.int .i64 yk) ∧ w.cell? ⟨b, o + i * 5 + 1, none⟩ = some (.int .i64 yf) ∧ w.cell? ⟨b, o + i * 5 + 1 + 1, none⟩ = some (.int .i64 yo) ∧ w.cell? ⟨b, o + i * 5 + 1 + 1 + 1, none⟩ = some (.int .i64 yn) ∧ w.cell? ⟨b, o + i * 5 + 1 + 1 + 1 + 1, none⟩ = some (.bool yh)
theorem wa_of {w : World} {B q p x g n b o i : Nat} {F : Nat → Bool} {v : Value} {T : List Bk} {yk yf yo yn : Int} {yh : Bool} (h : St w B q p x g n F v T) (h' : ActAt w b o i ⟨yk, yf, yo, yn, yh⟩) : WA q p x b o i yk yf yo yn yh w :=
  ⟨(cells3 h.2.1).1, (cells3 h.2.1).2.1, h'.1, h'.2.1, h'.2.2.1, h'.2.2.2.1, h'.2.2.2.2.1⟩
theorem wa_keep {w w' : World} {q p x b o i : Nat} {yk yf yo yn : Int} {yh : Bool} (h : WA q p x b o i yk yf yo yn yh w) (K : Keep (fun _ => False) w w') : WA q p x b o i yk yf yo yn yh w' := by
  have f : ∀ {b j : Nat} {x : Value}, w.cell? ⟨b, j, none⟩ = some x → w'.cell? ⟨b, j, none⟩ = some x := fun h => (K.cell (block_lt_cell h) id).trans h
  obtain ⟨h1, h2, h3, h4, h5, h6, h7⟩ := h
  exact ⟨f h1, f h2, f h3, f h4, f h5, f h6, f h7⟩
theorem ActAt.up {w w' : World} {B b o i : Nat} {x : A5} (h : ActAt w b o i x) (k : Up B w w') (hb : b < B) : ActAt w' b o i x := by
  obtain ⟨h2, h3, h4, h5, h6, h7⟩ := h
  have f : ∀ {j : Nat} {x : Value}, w.cell? ⟨b, j, none⟩ = some x → w'.cell? ⟨b, j, none⟩ = some x := fun h => (k.cell (block_lt_cell h) (by omega)).trans h
  exact ⟨f h2, f h3, f h4, f h5, f h6, h7⟩

end Go.Proofs.Ytcbkfilhgeeebaa
