/- Lists into which something is put behind those of smaller keys; copies of leaves. Plain facts. -/
import Derived.Test.YtfmefnejaocopaaSRfD
set_option linter.unusedSimpArgs false
set_option linter.unusedVariables false
namespace Ev
open Go (IntKind)

section
variable {α : Type}
def putS (k : Int) (l : List (Int × α)) : Bool := l.any fun x => decide (k < x.1)
def outS (k : Int) (v : α) (l : List (Int × α)) : List (Int × α) := if putS k l = true then ains l k v else adrop l k
theorem putS_false {k : Int} {l : List (Int × α)} (h : putS k l = false) : ∀ x ∈ l, x.1 ≤ k := fun x hx => by
  unfold putS at h
  rw [List.any_eq_false] at h
  have := h x hx
  simp at this; exact this
theorem putS_putI {k : Int} {l : List (Int × α)} (h : putS k l = true) : putI k l = true := by
  unfold putS at h
  unfold putI
  rw [List.any_eq_true] at h ⊢
  obtain ⟨x, hx, hk⟩ := h
  simp only [decide_eq_true_eq] at hk
  exact ⟨x, hx, by simp; omega⟩
theorem adrop_snoc {l : List (Int × α)} {k : Int} {x : Int × α} (h : Asc (l ++ [x])) : adrop (l ++ [x]) k = adrop l k ++ if x.1 = k then [] else [x] := by
  have hl : Asc l := h.sub (List.sublist_append_left _ _)
  rw [← adrop_filter h, ← adrop_filter hl, List.filter_append, List.filter_cons]
  congr 1
  by_cases e : x.1 = k
  · rw [if_neg (by simp [e]), if_pos e]; rfl
  · rw [if_pos (by simp [e]), if_neg e]; rfl
theorem adrop_lt {l : List (Int × α)} {k : Int} (h : Asc l) (hk : ∀ x ∈ l, x.1 ≤ k) : ∀ x ∈ adrop l k, x.1 < k := fun x hx => by
  rw [← adrop_filter h] at hx
  have := List.mem_filter.1 hx
  have h1 := hk x this.1
  have h2 := this.2
  simp only [Bool.not_eq_true', decide_eq_false_iff_not] at h2
  omega
theorem putI_no {l : List (Int × α)} {k : Int} (hk : ∀ x ∈ l, x.1 < k) : putI k l = false := by
  unfold putI
  rw [List.any_eq_false]
  intro x hx
  have := hk x hx
  simp; omega
theorem outS_snoc {l : List (Int × α)} {k : Int} (v : α) {x : Int × α} (h : Asc (l ++ [x])) :
    putS k (l ++ [x]) = (putS k l || decide (k < x.1)) ∧ outS k v (l ++ [x]) = outS k v l ++ (if putS k l = false ∧ k < x.1 then [(k, v)] else []) ++ (if x.1 = k then [] else [x]) := by
  have h1 : putS k (l ++ [x]) = (putS k l || decide (k < x.1)) := by unfold putS; rw [List.any_append]; simp
  refine ⟨h1, ?_⟩
  have hl : Asc l := h.sub (List.sublist_append_left _ _)
  unfold outS
  rw [h1]
  cases hp : putS k l with
  | true => rw [Bool.true_or, if_pos rfl, if_pos rfl, if_neg (fun hh => absurd hh.1 (by decide)), List.append_nil, ains_app v h (putS_putI hp)]
  | false =>
    have hle := putS_false hp
    have nf : ¬ false = true := by decide
    rw [Bool.false_or, if_neg nf]
    by_cases e : k < x.1
    · rw [if_pos (decide_eq_true e), if_pos ⟨rfl, e⟩, if_neg (by omega), ← ains_drop h, adrop_snoc h, if_neg (by omega)]
      have hd := adrop_lt hl hle
      have ha : Asc (adrop l k ++ [x]) := by
        have := h.drop k
        rwa [adrop_snoc h, if_neg (by omega)] at this
      obtain ⟨u1, u2⟩ := outI_snoc (k := k) v ha
      have h2 := putI_no hd
      have h3 : k ≤ x.1 := by omega
      unfold outI at u2
      rw [u1, h2, Bool.false_or, if_pos (decide_eq_true h3), if_neg nf, if_pos ⟨rfl, h3⟩, if_neg (by omega)] at u2
      exact u2
    · rw [decide_eq_false e, if_neg nf, if_neg (fun hh => e hh.2), List.append_nil, adrop_snoc h]
theorem outS_all {l : List (Int × α)} (h : Asc l) (k : Int) (v : α) : (outS k v l ++ if putS k l = false then [(k, v)] else []) = ains l k v := by
  unfold outS
  cases hp : putS k l with
  | true => rw [if_pos rfl, if_neg (by decide), List.append_nil]
  | false => rw [if_neg (by decide), if_pos rfl, ← ains_drop h, ains_snoc v (adrop_lt h (putS_false hp))]
theorem outS_len {l : List (Int × α)} (h : Asc l) (k : Int) (v : α) : (outS k v l).length ≤ l.length + 1 := by
  unfold outS
  split
  · rw [ains_length h]; split <;> omega
  · have := adrop_length (l := l) (k := k); omega
end
theorem pgs_take (lv : List (Int × Int)) (id : Int) {i : Nat} (hi : i < lv.length) : pgs (lv.take (i + 1)) id = pgs (lv.take i) id ++ if lv[i].1 / 1024 = id then [(lv[i].1 % 1024, lv[i].2)] else [] := by
  rw [take_snoc hi]
  unfold pgs
  rw [List.filter_append, List.map_append, List.filter_cons]
  by_cases e : lv[i].1 / 1024 = id
  · rw [if_pos (decide_eq_true e), if_pos e]; rfl
  · rw [if_neg (by simpa using e), if_neg e]; rfl
theorem insAll_snoc (id : Int) (lv P : List (Int × Int)) (x : Int × Int) : insAll id lv (P ++ [x]) = ains (insAll id lv P) (id * 1024 + x.1) x.2 := by unfold insAll; rw [List.foldl_append]; rfl
end Ev
