/- Pages of a chip: erased, or whole texts. -/
import Derived.Test.YtfbecginbilemaaSNandM
namespace Ev
open Go (IntKind)

theorem read_lay {a : NdA} {s : Nd} {b p : Nat} {t : Bytes} (ht : t.length = a.S + 32) (k q : Nat) : (s.lay a b p t).read a k q = if k = b ∧ q = p then t else s.read a k q := by
  unfold Nd.read Nd.lay upd2
  simp only
  by_cases h : k = b ∧ q = p
  · rw [if_pos h, if_pos h]
    by_cases hf : t = fullP a
    · rw [if_pos hf, if_pos rfl]; exact hf.symm
    · rw [if_neg hf, if_neg]
      intro hn; rw [hn] at ht; simp at ht
  · rw [if_neg h, if_neg h]
theorem read_clear {a : NdA} {s : Nd} {b n : Nat} (k q : Nat) : (s.clear b n).read a k q = if k = b ∧ q < n then fullP a else s.read a k q := by
  unfold Nd.read Nd.clear
  simp only
  by_cases h : k = b ∧ q < n
  · rw [if_pos h, if_pos h, if_pos rfl]
  · rw [if_neg h, if_neg h]

/-- Pages are erased, or whole texts that are not the erased page's. -/
def Fine (a : NdA) (s : Nd) : Prop := ∀ b p, s.pages b p = [] ∨ ((s.pages b p).length = a.S + 32 ∧ s.pages b p ≠ fullP a)
theorem Fine.lay {a : NdA} {s : Nd} (h : Fine a s) {b p : Nat} {t : Bytes} (ht : t.length = a.S + 32) : Fine a (s.lay a b p t) := by
  intro k q
  unfold Nd.lay upd2
  simp only
  by_cases hk : k = b ∧ q = p
  · rw [if_pos hk]
    by_cases hf : t = fullP a
    · rw [if_pos hf]; exact .inl rfl
    · rw [if_neg hf]; exact .inr ⟨ht, hf⟩
  · rw [if_neg hk]; exact h k q
theorem Fine.clear {a : NdA} {s : Nd} (h : Fine a s) (b n : Nat) : Fine a (s.clear b n) := by
  intro k q
  unfold Nd.clear
  simp only
  by_cases hk : k = b ∧ q < n
  · rw [if_pos hk]; exact .inl rfl
  · rw [if_neg hk]; exact h k q
theorem Fine.read {a : NdA} {s : Nd} (h : Fine a s) (b p : Nat) : (s.read a b p).length = a.S + 32 := by
  unfold Nd.read
  split
  · simp [fullP]
  · rename_i hn
    exact ((h b p).resolve_left hn).1
end Ev
