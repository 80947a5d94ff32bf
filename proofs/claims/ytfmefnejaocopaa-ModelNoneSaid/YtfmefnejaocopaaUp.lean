/- Loops of which each round is only known to go well. -/
import Derived.Test.YtfmefnejaocopaaArr
namespace Ev
open Go

/-- A loop that counts; the heaps are only known to be there. -/
theorem loop_rise {S X : Type} {step : S → Heap → Option ((S ⊕ X) × Heap)} (n : Nat) (I : Nat → S → Heap → Prop) (Q : X → Heap → Prop)
    (hs : ∀ i y G, i < n → I i y G → (∃ y' G', step y G = some (.inl y', G') ∧ I (i + 1) y' G') ∨ ∃ x G', step y G = some (.inr x, G') ∧ Q x G')
    (he : ∀ y G, I n y G → ∃ x G', step y G = some (.inr x, G') ∧ Q x G') {y : S} {H : Heap} (h0 : I 0 y H) : ∃ x G, loopW step y H = some (x, G) ∧ Q x G := by
  have key : ∀ d i y G, i + d = n → I i y G → ∃ m x G', iter step m y G = some (x, G') ∧ Q x G' := by
    intro d
    induction d with
    | zero =>
      intro i y G hi hI
      have : i = n := by omega
      subst this
      obtain ⟨x, G', g1, g2⟩ := he y G hI
      exact ⟨1, x, G', by rw [iter, g1]; rfl, g2⟩
    | succ d ih =>
      intro i y G hi hI
      rcases hs i y G (by omega) hI with ⟨y', G', g1, g2⟩ | ⟨x, G', g1, g2⟩
      · obtain ⟨m, x, G2, g3, g4⟩ := ih (i + 1) y' G' (by omega) g2
        exact ⟨m + 1, x, G2, by rw [iter, g1]; exact g3, g4⟩
      · exact ⟨1, x, G', by rw [iter, g1]; rfl, g2⟩
  obtain ⟨m, x, G, g1, g2⟩ := key n 0 y H (by omega) h0
  exact ⟨x, G, loopW_eq g1, g2⟩
open Go (IntKind) in
theorem tmod_pick (x : Int) (B : Nat) (hB : 0 < B) (hB2 : B ≤ 100000000) : ∃ i : Nat, i < B ∧ Int.tmod (IntKind.wrap .i64 (Int.tmod x (B : Int) + (B : Int))) (B : Int) = (i : Int) := by
  have h1 := Int.tmod_lt_of_pos x (show (0 : Int) < (B : Int) by omega)
  have h2 : -(B : Int) < Int.tmod x (B : Int) := by
    have := Int.lt_tmod_of_pos x (show (0 : Int) < (B : Int) by omega)
    exact this
  rw [wrap_i64 (by omega) (by omega)]
  obtain ⟨m, hm⟩ : ∃ m : Nat, Int.tmod x (B : Int) + (B : Int) = (m : Int) := ⟨(Int.tmod x (B : Int) + (B : Int)).toNat, (Int.toNat_of_nonneg (by omega)).symm⟩
  rw [hm]
  exact ⟨m % B, Nat.mod_lt _ hB, rfl⟩
end Ev
