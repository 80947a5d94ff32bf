/- Pages of a chip as package page sees them: numbers that stand in them; pages that were torn. -/
import Derived.Test.YtloijdlakkmjgaaSNandM
import Derived.Test.YtloijdlakkmjgaaSPage
namespace Ev
open Go (IntKind)

theorem fld_here' {x y : Bytes} {n : Nat} (h : x.length = n) : fld (x ++ y) 0 n = valB x := by
  unfold fld; rw [List.drop_zero, ← h, List.take_left]
theorem fld_next' {x y : Bytes} {o n m : Nat} (h : x.length = m) (ho : m ≤ o) : fld (x ++ y) o n = fld y (o - m) n := by
  unfold fld
  rw [List.drop_append, List.drop_eq_nil_of_le (by omega), List.nil_append, h]

theorem tagOf_spare' {t : Tg} {s : Bytes} {size : Nat} (h1 : tagOK t = true) (hq : 0 ≤ t.2.1 ∧ t.2.1 < 18446744073709551616) (h3 : size < 65536) (h4 : s.length ≤ size) : tagOf (spareOf t s size) = t ∧ longOf (spareOf t s size) = s.length := by
  obtain ⟨k, q, i, o, w, u⟩ := t
  have ht := of_decide_eq_true h1
  simp only at ht hq
  have e : spareOf (k, q, i, o, w, u) s size = leB 1 k.toNat ++ (leB 8 q.toNat ++ (leB 2 i.toNat ++ (leB 2 o.toNat ++ (leB 4 w.toNat ++ (leB 2 s.length ++ (zerosB 9 ++ leB 4 (crcMore 0 (dataOf s size ++ rowOf (k, q, i, o, w, u) s.length)))))))) := by
    simp [spareOf, rowOf, List.append_assoc]
  have v1 : valB (leB 1 k.toNat) = k.toNat := valB_leB 1 _ (by omega)
  have v2 : valB (leB 8 q.toNat) = q.toNat := valB_leB 8 _ (by omega)
  have v3 : valB (leB 2 i.toNat) = i.toNat := valB_leB 2 _ (by omega)
  have v4 : valB (leB 2 o.toNat) = o.toNat := valB_leB 2 _ (by omega)
  have v5 : valB (leB 4 w.toNat) = w.toNat := valB_leB 4 _ (by omega)
  have v6 : valB (leB 2 s.length) = s.length := valB_leB 2 _ (by omega)
  have l1 := leB_length 1 k.toNat; have l2 := leB_length 8 q.toNat; have l3 := leB_length 2 i.toNat; have l4 := leB_length 2 o.toNat; have l5 := leB_length 4 w.toNat; have l6 := leB_length 2 s.length
  rw [e]
  generalize zerosB 9 ++ leB 4 (crcMore 0 (dataOf s size ++ rowOf (k, q, i, o, w, u) s.length)) = z
  unfold tagOf longOf
  rw [fld_here' l1, fld_next' l1 (by decide), fld_here' l2]
  rw [fld_next' l1 (by decide), fld_next' l2 (by decide), fld_here' l3]
  rw [fld_next' l1 (by decide), fld_next' l2 (by decide), fld_next' l3 (by decide), fld_here' l4]
  rw [fld_next' l1 (by decide), fld_next' l2 (by decide), fld_next' l3 (by decide), fld_next' l4 (by decide), fld_here' l5]
  rw [fld_next' l1 (by decide), fld_next' l2 (by decide), fld_next' l3 (by decide), fld_next' l4 (by decide), fld_next' l5 (by decide), fld_here' l6]
  rw [v1, v2, v3, v4, v5, v6]
  refine ⟨?_, rfl⟩
  rw [Int.toNat_of_nonneg (by omega), Int.toNat_of_nonneg (by omega), Int.toNat_of_nonneg (by omega), Int.toNat_of_nonneg (by omega), Int.toNat_of_nonneg (by omega)]
theorem spare_dirty' (t : Tg) (s : Bytes) (size : Nat) : cleanB (spareOf t s size) = false := by
  unfold cleanB
  rw [List.all_eq_false]
  refine ⟨0, ?_, by decide⟩
  simp [spareOf, rowOf, zerosB]
theorem look_frame' {t : Tg} {s : Bytes} {size : Nat} (h1 : tagOK t = true) (hq : 0 ≤ t.2.1 ∧ t.2.1 < 18446744073709551616) (h3 : size < 65536) (h4 : s.length ≤ size) : lookP (dataOf s size) (spareOf t s size) = (1, t, s, ()) := by
  obtain ⟨e1, e2⟩ := tagOf_spare' h1 hq h3 h4
  have e3 : (dataOf s size).take s.length = s := by unfold dataOf; rw [List.take_left]
  have e4 := dataOf_length h4
  have hw : whole (dataOf s size) (spareOf t s size) = true := decide_eq_true ⟨spareOf_length t s size, by rw [e2, e4]; exact h4, by rw [e1]; exact h1, by rw [e4]; exact h3, by rw [e2, e3, e4], by rw [e1, e2, e3, e4]⟩
  unfold lookP
  rw [if_neg (fun h => by rw [spare_dirty'] at h; exact absurd h.2 (by decide)), if_pos hw, e1, e2, e3]

/-- What package page says of the bytes of a page. -/
def viewB (a : NdA) (t : Bytes) : Int × Tg × Bytes × Unit := lookP (t.take a.S) (t.drop a.S)
theorem view_full (a : NdA) : viewB a (fullP a) = (0, tag0, [], ()) := by
  unfold viewB lookP
  have h : ∀ t : Bytes, (∀ b ∈ t, b = 255) → cleanB t = true := fun t ht => List.all_eq_true.2 fun b hb => by simpa using ht b hb
  rw [if_pos]
  refine ⟨h _ fun b hb => ?_, h _ fun b hb => ?_⟩
  · exact List.eq_of_mem_replicate (List.mem_of_mem_take hb)
  · exact List.eq_of_mem_replicate (List.mem_of_mem_drop hb)
theorem view_clean {a : NdA} {t : Bytes} (hl : t.length = a.S + 32) (h : (viewB a t).1 = 0) : t = fullP a := by
  unfold viewB lookP at h
  split at h
  · rename_i hc
    unfold fullP
    rw [List.eq_replicate_iff]
    refine ⟨hl, fun b hb => ?_⟩
    rw [← List.take_append_drop a.S t] at hb
    rcases List.mem_append.1 hb with hb | hb
    · simpa using List.all_eq_true.1 hc.1 b hb
    · simpa using List.all_eq_true.1 hc.2 b hb
  · split at h
    · exact absurd h (by simp)
    · exact absurd h (by simp)

/-- The bytes of a page that says s under a tag. -/
def frameB (a : NdA) (t : Tg) (s : Bytes) : Bytes := dataOf s a.S ++ spareOf t s a.S
theorem frameB_length {a : NdA} {t : Tg} {s : Bytes} (h : s.length ≤ a.S) : (frameB a t s).length = a.S + 32 := by unfold frameB; rw [List.length_append, dataOf_length h, spareOf_length]
theorem view_frame {a : NdA} {t : Tg} {s : Bytes} (h1 : tagOK t = true) (hq : 0 ≤ t.2.1 ∧ t.2.1 < 18446744073709551616) (h3 : a.S < 65536) (h4 : s.length ≤ a.S) : viewB a (frameB a t s) = (1, t, s, ()) := by
  unfold viewB frameB
  rw [List.take_left' (dataOf_length h4), List.drop_left' (dataOf_length h4)]
  exact look_frame' h1 hq h3 h4
theorem frame_ne_full {a : NdA} {t : Tg} {s : Bytes} (h4 : s.length ≤ a.S) : frameB a t s ≠ fullP a := by
  intro h
  have h0 : (0 : UInt8) ∈ fullP a := by rw [← h]; simp [frameB, spareOf, rowOf, zerosB]
  exact absurd (List.eq_of_mem_replicate h0) (by decide)

theorem read_lay {a : NdA} {s : Nd} {b p : Nat} {t : Bytes} (ht : t.length = a.S + 32) (k q : Nat) : (s.lay a b p t).read a k q = if k = b ∧ q = p then t else s.read a k q := by
  unfold Nd.read Nd.lay upd2
  simp only
  by_cases h : k = b ∧ q = p
  · rw [if_pos h, if_pos h]
    by_cases hf : t = fullP a
    · rw [if_pos hf, if_pos rfl]; exact hf.symm
    · rw [if_neg hf, if_neg]
      intro hn; rw [hn] at ht; simp at ht
  · rw [if_neg h, if_neg h]
theorem read_clear {a : NdA} {s : Nd} {b n : Nat} (k q : Nat) : (s.clear b n).read a k q = if k = b ∧ q < n then fullP a else s.read a k q := by
  unfold Nd.read Nd.clear
  simp only
  by_cases h : k = b ∧ q < n
  · rw [if_pos h, if_pos h, if_pos rfl]
  · rw [if_neg h, if_neg h]

/-- Pages are erased, or whole texts that are not the erased page's. -/
def Fine (a : NdA) (s : Nd) : Prop := ∀ b p, s.pages b p = [] ∨ ((s.pages b p).length = a.S + 32 ∧ s.pages b p ≠ fullP a)
theorem Fine.lay {a : NdA} {s : Nd} (h : Fine a s) {b p : Nat} {t : Bytes} (ht : t.length = a.S + 32) : Fine a (s.lay a b p t) := by
  intro k q
  unfold Nd.lay upd2
  simp only
  by_cases hk : k = b ∧ q = p
  · rw [if_pos hk]
    by_cases hf : t = fullP a
    · rw [if_pos hf]; exact .inl rfl
    · rw [if_neg hf]; exact .inr ⟨ht, hf⟩
  · rw [if_neg hk]; exact h k q
theorem Fine.clear {a : NdA} {s : Nd} (h : Fine a s) (b n : Nat) : Fine a (s.clear b n) := by
  intro k q
  unfold Nd.clear
  simp only
  by_cases hk : k = b ∧ q < n
  · rw [if_pos hk]; exact .inl rfl
  · rw [if_neg hk]; exact h k q
theorem Fine.read {a : NdA} {s : Nd} (h : Fine a s) (b p : Nat) : (s.read a b p).length = a.S + 32 := by
  unfold Nd.read
  split
  · simp [fullP]
  · rename_i hn
    exact ((h b p).resolve_left hn).1
theorem Fine.erased {a : NdA} {s : Nd} (h : Fine a s) (b p : Nat) : (viewB a (s.read a b p)).1 = 0 ↔ s.pages b p = [] := by
  constructor
  · intro hv
    have hf := view_clean (h.read b p) hv
    by_cases he : s.pages b p = []
    · exact he
    · have hne := ((h b p).resolve_left he).2
      unfold Nd.read at hf
      rw [if_neg he] at hf
      exact absurd hf hne
  · intro he
    unfold Nd.read
    rw [if_pos he, view_full]
end Ev
