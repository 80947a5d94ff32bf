/- A chip to which nothing happens: writing and erasing. Shapes of chips. -/
import Derived.Test.YtfbecginbilemaaSNandM
namespace Ev
open Go (IntKind)

theorem cutNow_nil {s : Nd} (h : s.cuts = []) : s.cutNow = none := by unfold Nd.cutNow; rw [h]; rfl
theorem failNow_nil {s : Nd} (h : s.fails = []) : s.failNow = false := by unfold Nd.failNow; rw [h]; exact decide_eq_false List.not_mem_nil
theorem used_false {a : NdA} {s : Nd} {b p : Nat} (h : ∀ q, p ≤ q → q < a.P → s.pages b q = []) : s.used a b p = false := by
  unfold Nd.used
  rw [List.any_eq_false]
  intro q hq
  by_cases h1 : p ≤ q
  · simp [h q h1 (List.mem_range.1 hq)]
  · simp [h1]
theorem used_true {a : NdA} {s : Nd} {b p q : Nat} (h1 : p ≤ q) (h2 : q < a.P) (h3 : s.pages b q ≠ []) : s.used a b p = true := by
  unfold Nd.used
  rw [List.any_eq_true]
  exact ⟨q, List.mem_range.2 h2, by simp [h1, h3]⟩
theorem program_ok {a : NdA} {s : Nd} {b p : Nat} {t : Bytes} (h1 : s.cutNow = none) (h2 : s.dead b = false) (h3 : s.failNow = false) : s.program a b p t = (0, s.acted.lay a b p t) := by
  unfold Nd.program
  rw [h1]
  simp only [h2, h3]
  rw [if_neg (by simp)]
theorem acted_plain {s : Nd} (h : s.cutNow = none) : s.acted = { s with did := s.did + 1 } := by unfold Nd.acted; rw [h]; simp
theorem erase_ok {a : NdA} {s : Nd} {b : Nat} (h1 : s.cutNow = none) (h2 : s.dead b = false) (h3 : s.failNow = false) : s.erase a b = (0, { s.acted with worn := upd s.worn b (s.worn b + 1) }.clear b a.P) := by
  unfold Nd.erase
  rw [h1]
  simp only [h2, h3]
  rw [if_neg (by simp)]
theorem geo_nat {g : Geo} (h : geoOK g = true) : ∃ B P S : Nat, g = ((B : Int), (P : Int), (S : Int), ()) := by
  obtain ⟨x, y, z, u⟩ := g
  have h := of_decide_eq_true h
  simp only at h
  exact ⟨x.toNat, y.toNat, z.toNat, by rw [Int.toNat_of_nonneg (by omega), Int.toNat_of_nonneg (by omega), Int.toNat_of_nonneg (by omega)]⟩

def shape (g : Geo) : Geo := (8 + bitsI .and .i64 g.1 7, 4 + bitsI .and .i64 g.2.1 7, 64 + bitsI .and .i64 g.2.2.1 63, ())
theorem shape_nat (g : Geo) : ∃ B P S : Nat, shape g = ((B : Int), (P : Int), (S : Int), ()) ∧ 8 ≤ B ∧ B ≤ 15 ∧ 4 ≤ P ∧ P ≤ 11 ∧ 64 ≤ S ∧ S ≤ 127 ∧ geoOK ((B : Int), (P : Int), (S : Int), ()) = true := by
  obtain ⟨x, y, z, u⟩ := g
  have b0 := and_ones (k := .i64) (x := x) (m := 7) 3 (by decide) (by decide)
  have b1 := and_ones (k := .i64) (x := y) (m := 7) 3 (by decide) (by decide)
  have b2 := and_ones (k := .i64) (x := z) (m := 63) 6 (by decide) (by decide)
  refine ⟨(8 + bitsI .and .i64 x 7).toNat, (4 + bitsI .and .i64 y 7).toNat, (64 + bitsI .and .i64 z 63).toNat, ?_, by omega, by omega, by omega, by omega, by omega, by omega, decide_eq_true ?_⟩
  · simp only [shape]
    rw [Int.toNat_of_nonneg (by omega), Int.toNat_of_nonneg (by omega), Int.toNat_of_nonneg (by omega)]
  · simp only
    omega
end Ev
