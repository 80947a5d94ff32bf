/- Loops of the plain functions: by a relation that each round keeps, and a number that falls. Reads and writes of known blocks. -/
import Derived.Test.YtbnghapbakaheaaEvCore
namespace Ev
open Go (IntKind)

theorem iter_mono {S X : Type} {step : S → Heap → Option ((S ⊕ X) × Heap)} : ∀ (n m : Nat) (s : S) (H : Heap) (r : X × Heap), n ≤ m → iter step n s H = some r → iter step m s H = some r
  | 0, _, _, _, _, _, h => by cases h
  | n + 1, 0, _, _, _, hm, _ => absurd hm (Nat.not_succ_le_zero _)
  | n + 1, m + 1, s, H, r, hm, h => by
    simp only [iter] at h ⊢
    cases hs : step s H with
    | none => rw [hs] at h; cases h
    | some p =>
      rw [hs] at h
      obtain ⟨x, H'⟩ := p
      cases x with
      | inl s' => exact iter_mono n m s' H' r (Nat.le_of_succ_le_succ hm) h
      | inr x => exact h

theorem loopW_eq {S X : Type} {step : S → Heap → Option ((S ⊕ X) × Heap)} {n : Nat} {s : S} {H : Heap} {r : X × Heap} (h : iter step n s H = some r) : loopW step s H = some r := by
  unfold loopW
  have hex : ∃ r n, iter step n s H = some r := ⟨r, n, h⟩
  rw [dif_pos hex]
  obtain ⟨m, hm⟩ := Classical.choose_spec hex
  have h1 := iter_mono n (max n m) s H r (Nat.le_max_left _ _) h
  have h2 := iter_mono m (max n m) s H _ (Nat.le_max_right _ _) hm
  rw [h1] at h2
  exact h2.symm

/-- One round. -/
def Round {S X : Type} (I : S → Heap → Prop) (Q : X → Heap → Prop) : Option ((S ⊕ X) × Heap) → Prop
  | some (.inl s, H) => I s H
  | some (.inr x, H) => Q x H
  | none => False

theorem loopW_run {S X : Type} {step : S → Heap → Option ((S ⊕ X) × Heap)} (I : S → Heap → Prop) (Q : X → Heap → Prop) (μ : S → Heap → Nat)
    (h : ∀ s H, I s H → Round (fun s' H' => I s' H' ∧ μ s' H' < μ s H) Q (step s H)) (s : S) (H : Heap) (h0 : I s H) : ∃ x H', loopW step s H = some (x, H') ∧ Q x H' := by
  have key : ∀ n s H, μ s H ≤ n → I s H → ∃ x H', iter step (n + 1) s H = some (x, H') ∧ Q x H' := by
    intro n
    induction n with
    | zero =>
      intro s H hm hI
      have := h s H hI
      unfold Round at this
      simp only [iter]
      split at this
      · omega
      · rename_i x H' hs; rw [hs]; exact ⟨x, H', rfl, this⟩
      · exact this.elim
    | succ n ih =>
      intro s H hm hI
      have := h s H hI
      unfold Round at this
      rw [iter]
      split at this
      · rename_i s' H' hs
        rw [hs]
        exact ih s' H' (by omega) this.1
      · rename_i x H' hs; rw [hs]; exact ⟨x, H', rfl, this⟩
      · exact this.elim
  obtain ⟨x, H', h1, h2⟩ := key _ s H (Nat.le_refl _) h0
  exact ⟨x, H', loopW_eq h1, h2⟩

theorem bind_some {α β : Type} (x : α) (f : α → Option β) : (some x).bind f = f x := rfl
theorem cond_t {α : Type} (a b : α) : cond true a b = a := rfl
theorem cond_f {α : Type} (a b : α) : cond false a b = b := rfl

/-! Known blocks. -/
theorem cell_of {H : Heap} {b o : Nat} {cs : List C} {bk : BK} {c : C} (h : H[b]? = some (.cells cs bk)) (hc : cs[o]? = some c) : H.cell b o = some c := by
  simp [Heap.cell, h, hc]
theorem rdI_of {H : Heap} {b o : Nat} {cs : List C} {bk : BK} {k : IntKind} {n : Int} (h : H[b]? = some (.cells cs bk)) (hc : cs[o]? = some (.int k n)) : rdI k H b o = some n := by
  show (H.cell b o).bind (CT.un (.int k)) = some n
  rw [cell_of h hc]
  show (bif decide (k = k) then some n else none) = some n
  simp
theorem rdB_of {H : Heap} {b o : Nat} {cs : List C} {bk : BK} {n : Bool} (h : H[b]? = some (.cells cs bk)) (hc : cs[o]? = some (.bool n)) : rdB H b o = some n := by
  show (H.cell b o).bind (CT.un .bool) = some n
  rw [cell_of h hc]; rfl
theorem rdS_of {H : Heap} {b o : Nat} {cs : List C} {bk : BK} {n : Bytes} (h : H[b]? = some (.cells cs bk)) (hc : cs[o]? = some (.str n)) : rdS H b o = some n := by
  show (H.cell b o).bind (CT.un .str) = some n
  rw [cell_of h hc]; rfl
theorem rdP_of {H : Heap} {b o : Nat} {cs : List C} {bk : BK} {n : Ptr} (h : H[b]? = some (.cells cs bk)) (hc : cs[o]? = some (.ptr n)) : rdP H b o = some n := by
  show (H.cell b o).bind (CT.un .ptr) = some n
  rw [cell_of h hc]; rfl
theorem rdSl_of {H : Heap} {b o es : Nat} {cs : List C} {bk : BK} {n : Sl} (h : H[b]? = some (.cells cs bk)) (hc : cs[o]? = some (.sl es n)) : rdSl es H b o = some n := by
  show (H.cell b o).bind (CT.un (.sl es)) = some n
  rw [cell_of h hc]
  show (bif decide (es = es) then some n else none) = some n
  simp
theorem wr1_of {H : Heap} {b o : Nat} {cs : List C} {bk : BK} {c : C} (h : H[b]? = some (.cells cs bk)) (hb : bk ≠ .ro) (ho : o < cs.length) : wr H b o [c] = some (H.set b (.cells (cs.set o c) bk)) := by
  unfold wr
  simp only [h]
  have h1 : decide (bk ≠ .ro) = true := decide_eq_true hb
  have h2 : decide (o + [c].length ≤ cs.length) = true := decide_eq_true (by simp; omega)
  rw [h1, h2]; rfl
theorem at_of {es : Nat} {p : Nat × Nat} {len cap : Nat} {i : Int} (h0 : 0 ≤ i) (h1 : i < len) : Sl.at es ⟨some p, len, cap⟩ i = some (p.1, p.2 + i.toNat * es) := by
  unfold Sl.at
  have : decide (0 ≤ i ∧ i < (len : Int)) = true := decide_eq_true ⟨h0, h1⟩
  simp only [this]; rfl
theorem set_get {H : Heap} {b : Nat} {x : Blk} (h : b < H.length) : (H.set b x)[b]? = some x := by simp [h]
theorem set_get' {H : Heap} {b c : Nat} {x : Blk} (h : b ≠ c) : (H.set b x)[c]? = H[c]? := by rw [List.getElem?_set_ne h]

theorem wrap_i64 {n : Int} (h0 : -9223372036854775808 ≤ n) (h1 : n ≤ 9223372036854775807) : IntKind.wrap .i64 n = n := by
  have e : IntKind.wrap .i64 n = if n % 18446744073709551616 ≥ 9223372036854775808 then n % 18446744073709551616 - 18446744073709551616 else n % 18446744073709551616 := by
    simp [IntKind.wrap, IntKind.signed, IntKind.bits]
  rw [e]
  split <;> omega
end Ev
