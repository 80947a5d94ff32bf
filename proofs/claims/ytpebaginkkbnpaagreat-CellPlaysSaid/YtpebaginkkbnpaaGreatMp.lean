/- Maps in the heap, as functions of their keys. -/
import Derived.Test.YtpebaginkkbnpaaGreatArr
namespace Ev

theorem mfind_put : ∀ {es : MEs} {k : Int} {q : W × Nat}, mfind es k = some q → ∀ (x : W) (j : Int), mfind (mput es k x) j = if j = k then some (x, q.2) else mfind es j
  | [], _, _, h, _, _ => by cases h
  | y :: r, k, q, h, x, j => by
    simp only [mfind] at h
    by_cases e : y.1 = k
    · rw [decide_eq_true e, cond_true] at h
      cases h
      simp only [mput, decide_eq_true e, cond_true, mfind]
      by_cases e2 : y.1 = j
      · rw [decide_eq_true e2, cond_true, if_pos (by omega)]
      · rw [decide_eq_false e2, cond_false, if_neg (by omega)]; rfl
    · rw [decide_eq_false e, cond_false] at h
      simp only [mput, decide_eq_false e, cond_false, mfind]
      rw [mfind_put h x j]
      by_cases e2 : y.1 = j
      · rw [decide_eq_true e2, cond_true, cond_true, if_neg (by omega)]
      · rw [decide_eq_false e2, cond_false, cond_false]
theorem mfind_ins : ∀ {es : MEs} {k : Int}, mfind es k = none → ∀ (x : W) (n : Nat) (j : Int), mfind (mins es k x n) j = if j = k then some (x, n) else mfind es j
  | [], k, _, x, n, j => by
    simp only [mins, mfind]
    by_cases e : k = j
    · rw [decide_eq_true e, cond_true, if_pos e.symm]
    · rw [decide_eq_false e, cond_false, if_neg (fun h => e h.symm)]
  | y :: r, k, h, x, n, j => by
    simp only [mfind] at h
    by_cases e : y.1 = k
    · rw [decide_eq_true e, cond_true] at h; cases h
    · rw [decide_eq_false e, cond_false] at h
      simp only [mins]
      by_cases hlt : k < y.1
      · rw [decide_eq_true hlt, cond_true]
        simp only [mfind]
        by_cases e2 : k = j
        · rw [decide_eq_true e2, cond_true, if_pos e2.symm]
        · rw [decide_eq_false e2, cond_false, if_neg (fun h => e2 h.symm)]
      · rw [decide_eq_false hlt, cond_false]
        simp only [mfind]
        rw [mfind_ins h x n j]
        by_cases e2 : y.1 = j
        · rw [decide_eq_true e2, cond_true, cond_true, if_neg (by omega)]
        · rw [decide_eq_false e2, cond_false, cond_false]
theorem mfind_lt : ∀ {es : MEs} {j : Int}, (∀ x ∈ es, j < x.1) → mfind es j = none
  | [], _, _ => rfl
  | y :: r, j, h => by
    have := h y (by simp)
    simp only [mfind]
    rw [decide_eq_false (by omega), cond_false]
    exact mfind_lt fun x hx => h x (List.mem_cons_of_mem _ hx)
abbrev MSorted (es : MEs) : Prop := es.Pairwise fun x y => x.1 < y.1
theorem mfind_drop : ∀ {es : MEs}, MSorted es → ∀ (k j : Int), mfind (mdrop es k) j = if j = k then none else mfind es j
  | [], _, k, j => by simp [mdrop, mfind]
  | y :: r, h, k, j => by
    simp only [mdrop]
    by_cases e : y.1 = k
    · rw [decide_eq_true e, cond_true]
      simp only [mfind]
      by_cases e2 : y.1 = j
      · rw [if_pos (by omega)]
        exact mfind_lt fun x hx => by have := List.rel_of_pairwise_cons h hx; omega
      · rw [decide_eq_false e2, cond_false, if_neg (by omega)]
    · rw [decide_eq_false e, cond_false]
      simp only [mfind]
      rw [mfind_drop (List.Pairwise.of_cons h) k j]
      by_cases e2 : y.1 = j
      · rw [decide_eq_true e2, cond_true, cond_true, if_neg (by omega)]
      · rw [decide_eq_false e2, cond_false, cond_false]
theorem mput_mem : ∀ {es : MEs} {k : Int} {v : W} {x : Int × W × Nat}, x ∈ mput es k v → ∃ y ∈ es, y.1 = x.1
  | [], _, _, _, h => by cases h
  | y :: r, k, v, x, h => by
    simp only [mput] at h
    by_cases e : y.1 = k
    · rw [decide_eq_true e, cond_true] at h
      rcases List.mem_cons.1 h with h | h
      · exact ⟨y, by simp, by rw [h]⟩
      · exact ⟨x, List.mem_cons_of_mem _ h, rfl⟩
    · rw [decide_eq_false e, cond_false] at h
      rcases List.mem_cons.1 h with h | h
      · exact ⟨y, by simp, by rw [h]⟩
      · obtain ⟨z, h1, h2⟩ := mput_mem h
        exact ⟨z, List.mem_cons_of_mem _ h1, h2⟩
theorem mput_sorted : ∀ {es : MEs}, MSorted es → ∀ (k : Int) (v : W), MSorted (mput es k v)
  | [], _, _, _ => List.Pairwise.nil
  | y :: r, h, k, v => by
    simp only [mput]
    by_cases e : y.1 = k
    · rw [decide_eq_true e, cond_true]
      exact List.Pairwise.cons (fun x hx => List.rel_of_pairwise_cons h hx) (List.Pairwise.of_cons h)
    · rw [decide_eq_false e, cond_false]
      refine List.Pairwise.cons (fun x hx => ?_) (mput_sorted (List.Pairwise.of_cons h) k v)
      obtain ⟨z, h1, h2⟩ := mput_mem hx
      rw [← h2]; exact List.rel_of_pairwise_cons h h1
theorem mins_mem : ∀ {es : MEs} {k : Int} {v : W} {n : Nat} {x : Int × W × Nat}, x ∈ mins es k v n ↔ x = (k, v, n) ∨ x ∈ es
  | [], k, v, n, x => by simp [mins]
  | y :: r, k, v, n, x => by
    simp only [mins]
    by_cases e : k < y.1
    · rw [decide_eq_true e, cond_true]; simp
    · rw [decide_eq_false e, cond_false, List.mem_cons, mins_mem, List.mem_cons]
      constructor
      · rintro (h | h | h)
        · exact .inr (.inl h)
        · exact .inl h
        · exact .inr (.inr h)
      · rintro (h | h | h)
        · exact .inr (.inl h)
        · exact .inl h
        · exact .inr (.inr h)
theorem mfind_nokey : ∀ {es : MEs} {k : Int}, mfind es k = none → ∀ x ∈ es, x.1 ≠ k
  | [], _, _, _, h => by cases h
  | y :: r, k, h, x, hx => by
    simp only [mfind] at h
    by_cases e : y.1 = k
    · rw [decide_eq_true e, cond_true] at h; cases h
    · rw [decide_eq_false e, cond_false] at h
      rcases List.mem_cons.1 hx with hx | hx
      · rw [hx]; exact e
      · exact mfind_nokey h x hx
theorem mins_sorted : ∀ {es : MEs}, MSorted es → ∀ {k : Int}, (∀ x ∈ es, x.1 ≠ k) → ∀ (v : W) (n : Nat), MSorted (mins es k v n)
  | [], _, k, _, v, n => by simp [mins, MSorted]
  | y :: r, h, k, hk, v, n => by
    simp only [mins]
    have hy := hk y (by simp)
    by_cases e : k < y.1
    · rw [decide_eq_true e, cond_true]
      refine List.Pairwise.cons (fun x hx => ?_) h
      rcases List.mem_cons.1 hx with hx | hx
      · rw [hx]; exact e
      · exact Int.lt_trans e (List.rel_of_pairwise_cons h hx)
    · rw [decide_eq_false e, cond_false]
      refine List.Pairwise.cons (fun x hx => ?_) (mins_sorted (List.Pairwise.of_cons h) (fun x hx => hk x (List.mem_cons_of_mem _ hx)) v n)
      rcases mins_mem.1 hx with hx | hx
      · rw [hx]; show y.1 < k; omega
      · exact List.rel_of_pairwise_cons h hx
theorem mdrop_sub : ∀ (es : MEs) (k : Int), (mdrop es k).Sublist es
  | [], _ => List.Sublist.refl _
  | y :: r, k => by
    simp only [mdrop]
    by_cases e : y.1 = k
    · rw [decide_eq_true e, cond_true]; exact List.sublist_cons_self _ _
    · rw [decide_eq_false e, cond_false]; exact (mdrop_sub r k).cons_cons _

/-- A map, as a function of its keys. -/
def MpAt (H : Heap) (m : Nat) (F : Int → Option W) : Prop := ∃ es ck, H[m]? = some (.mp es ck) ∧ MSorted es ∧ ∀ k, (mfind es k).map Prod.fst = F k
section
variable {H : Heap} {m : Nat} {F : Int → Option W}
theorem MpAt.lt (h : MpAt H m F) : m < H.length := by obtain ⟨es, ck, h1, _⟩ := h; exact get_lt h1
theorem MpAt.keep (h : MpAt H m F) {G : Nat → Prop} {H' : Heap} (k : Keep G H H') (hG : ¬ G m) : MpAt H' m F := by
  obtain ⟨es, ck, h1, h2⟩ := h
  exact ⟨es, ck, k.get h1 hG, h2⟩
theorem MpAt.new (H : Heap) : MpAt (H ++ [.mp [] 0]) H.length fun _ => none := ⟨[], 0, by simp, List.Pairwise.nil, fun _ => rfl⟩
theorem mpAt_of {es : MEs} {ck : Nat} (h : H[m]? = some (.mp es ck)) : H.mpAt m = some (es, ck) := by unfold Heap.mpAt; rw [h]
theorem MpAt.get (h : MpAt H m F) {ty : Ty} {zero : W} {k : Int} {v : ty.T} (hv : ty.un ((F k).getD zero) = some v) : mget H ty zero (some m) k = some (v, (F k).isSome) := by
  obtain ⟨es, ck, h1, _, h3⟩ := h
  simp only [mget, mgetW, mpAt_of h1, Option.bind_some, h3, hv]
theorem MpAt.set (h : MpAt H m F) (k : Int) (x : W) : ∃ H', mset H (some m) k x = some H' ∧ MpAt H' m (fun j => if j = k then some x else F j) ∧ Keep (fun j => j = m) H H' := by
  obtain ⟨es, ck, h1, h2, h3⟩ := h
  have hl := get_lt h1
  refine ⟨_, by simp only [mset, Option.bind_some, mpAt_of h1]; rfl, ?_, Keep.set _ _ _ rfl⟩
  unfold msetB
  cases hf : mfind es k with
  | none =>
    refine ⟨mins es k x ck, ck + 1, by rw [set_get hl], mins_sorted h2 (mfind_nokey hf) x ck, fun j => ?_⟩
    rw [mfind_ins hf]
    by_cases e : j = k
    · rw [if_pos e]; exact (if_pos e).symm
    · rw [if_neg e]; exact (h3 j).trans (if_neg e).symm
  | some q =>
    refine ⟨mput es k x, ck, by rw [set_get hl], mput_sorted h2 k x, fun j => ?_⟩
    rw [mfind_put hf]
    by_cases e : j = k
    · rw [if_pos e]; exact (if_pos e).symm
    · rw [if_neg e]; exact (h3 j).trans (if_neg e).symm
theorem MpAt.del (h : MpAt H m F) (k : Int) : ∃ H', mdel H (some m) k = some H' ∧ MpAt H' m (fun j => if j = k then none else F j) ∧ Keep (fun j => j = m) H H' := by
  obtain ⟨es, ck, h1, h2, h3⟩ := h
  have hl := get_lt h1
  refine ⟨_, by simp only [mdel, Option.bind_some, mpAt_of h1]; rfl, ?_, Keep.set _ _ _ rfl⟩
  refine ⟨mdrop es k, ck, by rw [set_get hl], h2.sublist (mdrop_sub es k), fun j => ?_⟩
  rw [mfind_drop h2]
  by_cases e : j = k
  · rw [if_pos e]; exact (if_pos e).symm
  · rw [if_neg e]; exact (h3 j).trans (if_neg e).symm
end
end Ev
