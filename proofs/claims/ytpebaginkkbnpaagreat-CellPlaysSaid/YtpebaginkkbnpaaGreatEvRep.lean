/- strings.Repeat as a sound callee: by the shelf's contract, over any program that bears its bodies. -/
import Derived.Test.YtpebaginkkbnpaaGreatEvTie
import Derived.Shelf.Strings.Repeat
namespace Ev
open Go Go.Shelf Go.Proofs

theorem rep_copies (l : Bytes) : ∀ c, Lib.repeatL l c = (List.replicate c l).flatten
  | 0 => rfl
  | c + 1 => by rw [List.replicate_succ, List.flatten_cons, ← rep_copies l c]; rfl

theorem ext_below {ρ : Rho} {H : Heap} {w w' : World} (h : RowKit.Below w.heap.size w w') : Ext ρ H w ρ H w' :=
  ⟨Rho.le_refl _, Nat.le_refl _, fun b pl h h' => by simp [h] at h', fun _ _ h => h, h.size, h.os, h.tape, h.output, fun j hj _ => h.block j hj⟩

theorem rep_inv {s : Bytes} {n : Int} {r : Bytes × Unit} (h : strings_Repeat s n = some r) : 0 ≤ n ∧ n ≤ (maxRow : Int) ∧ n * (s.length : Int) ≤ (maxRow : Int) ∧ r = ((List.replicate n.toNat s).flatten, ()) := by
  unfold strings_Repeat at h
  cases hd : decide (0 ≤ n ∧ n ≤ (maxRow : Int) ∧ n * (s.length : Int) ≤ (maxRow : Int)) with
  | false => rw [hd] at h; cases h
  | true =>
    rw [hd] at h
    cases h
    have := of_decide_eq_true hd
    exact ⟨this.1, this.2.1, this.2.2, rfl⟩

theorem rep_tied {P : Program} {ρ : Ren} (L : Lays.n105 P ρ) (X : Builder.Extra P ρ) (nm : ((Body.n105 ρ).name == "runtime.NumGoroutine") = false) (hb : (Body.n105 ρ).body.isNone = false) : Tied P strings_Repeat.c (ρ.f 105) := by
  refine ⟨?_, ⟨_, L.f105, nm, hb⟩⟩
  intro r H w t x vs hR hvs hg
  obtain ⟨s, n, u⟩ := t
  obtain ⟨res, u'⟩ := x
  obtain ⟨d1, d2, d3, d4⟩ := rep_inv (s := s) (n := n) (r := (res, u')) hg
  clear hg
  change Int at n
  change Bytes at s
  change Bytes at res
  match vs, hvs with
  | [v, v'], ⟨⟨x, hx1, hx2⟩, hy, _⟩ =>
    subst hx1
    have hx3 : x.data.toList = s := hx2
    have hy : v' = .int .i64 n := hy
    subst hy
    obtain ⟨c, rfl⟩ : ∃ c : Nat, n = (c : Int) := ⟨n.toNat, (Int.toNat_of_nonneg d1).symm⟩
    have hs : x.size = s.length := by rw [← hx3, Array.length_toList]; rfl
    have h1 : c * s.length ≤ maxRow := by
      exact_mod_cast d3
    have h2 : x.size * c ≤ 140737488355328 := by
      rw [hs, Nat.mul_comm]
      exact Nat.le_trans h1 (by decide)
    have hc : c ≤ 9223372036854775807 := by
      unfold maxRow at d2
      omega
    refine (Any.strings_Repeat L X x c w hc h2).mono ?_
    rintro e w' ⟨rfl, bel⟩
    cases d4
    refine ⟨_, rfl, ⟨_, rfl, ?_⟩, hR.world fun k hk => bel.block k hk, ext_below bel⟩
    show (Lib.repeatL x.data.toList c).toArray.toList = _
    rw [hx3, rep_copies, Int.toNat_natCast]
end Ev
