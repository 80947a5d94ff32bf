/- Association lists by rising keys; maps that lie in the heap. -/
import Derived.Test.YtfmefnejaocopaaEvCore
import Derived.Test.YtfmefnejaocopaaEvLoop
import Derived.Test.YtfmefnejaocopaaArr
set_option linter.unusedSimpArgs false
set_option linter.unusedVariables false
namespace Ev
open Go (IntKind)

section
variable {α : Type}
def Asc (l : List (Int × α)) : Prop := l.Pairwise fun x y => x.1 < y.1
def afind : List (Int × α) → Int → Option α
  | [], _ => none
  | x :: r, k => if x.1 = k then some x.2 else afind r k
def ains : List (Int × α) → Int → α → List (Int × α)
  | [], k, v => [(k, v)]
  | x :: r, k, v => if k < x.1 then (k, v) :: x :: r else if x.1 = k then (k, v) :: r else x :: ains r k v
def adrop : List (Int × α) → Int → List (Int × α)
  | [], _ => []
  | x :: r, k => if x.1 = k then r else x :: adrop r k

theorem Asc.tail {x : Int × α} {l : List (Int × α)} (h : Asc (x :: l)) : Asc l := List.Pairwise.of_cons h
theorem Asc.head {x : Int × α} {l : List (Int × α)} (h : Asc (x :: l)) {y : Int × α} (hy : y ∈ l) : x.1 < y.1 := List.rel_of_pairwise_cons h hy
theorem Asc.nil : Asc ([] : List (Int × α)) := List.Pairwise.nil
theorem afind_none {l : List (Int × α)} {k : Int} (h : ∀ x ∈ l, x.1 ≠ k) : afind l k = none := by
  induction l with
  | nil => rfl
  | cons x l ih => rw [afind, if_neg (h x (by simp))]; exact ih fun y hy => h y (by simp [hy])
theorem afind_mem {l : List (Int × α)} {k : Int} {v : α} (h : afind l k = some v) : (k, v) ∈ l := by
  induction l with
  | nil => cases h
  | cons x l ih =>
    rw [afind] at h
    by_cases e : x.1 = k
    · rw [if_pos e] at h; cases h; rw [← e]; simp
    · rw [if_neg e] at h; exact List.mem_cons_of_mem _ (ih h)
theorem Asc.find {l : List (Int × α)} (h : Asc l) {k : Int} {v : α} (hm : (k, v) ∈ l) : afind l k = some v := by
  induction l with
  | nil => simp at hm
  | cons x l ih =>
    rw [afind]
    rcases List.mem_cons.1 hm with e | hm
    · subst e; rw [if_pos rfl]
    · have := h.head hm
      rw [if_neg (by omega)]
      exact ih h.tail hm
theorem afind_isSome {l : List (Int × α)} {k : Int} : (afind l k).isSome = true ↔ k ∈ l.map Prod.fst := by
  induction l with
  | nil => simp [afind]
  | cons x l ih =>
    rw [afind, List.map_cons, List.mem_cons]
    by_cases e : x.1 = k
    · rw [if_pos e]; simp [e]
    · rw [if_neg e, ih]
      exact ⟨.inr, fun h => h.resolve_left (fun hh => e hh.symm)⟩
theorem ains_mem {l : List (Int × α)} {k : Int} {v : α} {y : Int × α} (h : y ∈ ains l k v) : y = (k, v) ∨ y ∈ l := by
  induction l with
  | nil => exact .inl (by simpa [ains] using h)
  | cons x l ih =>
    rw [ains] at h
    split at h
    · rcases List.mem_cons.1 h with h | h
      · exact .inl h
      · exact .inr h
    · split at h
      · rcases List.mem_cons.1 h with h | h
        · exact .inl h
        · exact .inr (List.mem_cons_of_mem _ h)
      · rcases List.mem_cons.1 h with h | h
        · exact .inr (by simp [h])
        · rcases ih h with h | h
          · exact .inl h
          · exact .inr (List.mem_cons_of_mem _ h)
theorem Asc.ins {l : List (Int × α)} (h : Asc l) (k : Int) (v : α) : Asc (ains l k v) := by
  induction l with
  | nil => exact List.pairwise_singleton _ _
  | cons x l ih =>
    rw [ains]
    by_cases e : k < x.1
    · rw [if_pos e]
      refine List.Pairwise.cons (fun y hy => ?_) h
      rcases List.mem_cons.1 hy with rfl | hy
      · exact e
      · have := h.head hy; show k < y.1; omega
    · rw [if_neg e]
      by_cases e2 : x.1 = k
      · rw [if_pos e2]
        exact List.Pairwise.cons (fun y hy => by have := h.head hy; show k < y.1; omega) h.tail
      · rw [if_neg e2]
        refine List.Pairwise.cons (fun y hy => ?_) (ih h.tail)
        rcases ains_mem hy with rfl | hy
        · show x.1 < k; omega
        · exact h.head hy
theorem Asc.sub {l l' : List (Int × α)} (h : Asc l) (hs : l'.Sublist l) : Asc l' := h.sublist hs
theorem adrop_sub : ∀ (l : List (Int × α)) (k : Int), (adrop l k).Sublist l
  | [], _ => List.Sublist.slnil
  | x :: l, k => by
    rw [adrop]
    split
    · exact List.sublist_cons_self _ _
    · exact (adrop_sub l k).cons_cons _
theorem Asc.drop {l : List (Int × α)} (h : Asc l) (k : Int) : Asc (adrop l k) := h.sub (adrop_sub l k)
theorem afind_ins {l : List (Int × α)} (h : Asc l) (k : Int) (v : α) (k' : Int) : afind (ains l k v) k' = if k' = k then some v else afind l k' := by
  induction l with
  | nil =>
    simp only [ains, afind]
    by_cases e : k = k'
    · rw [if_pos e, if_pos e.symm]
    · rw [if_neg e, if_neg (fun hh => e hh.symm)]
  | cons x l ih =>
    rw [ains]
    by_cases e : k < x.1
    · rw [if_pos e, afind]
      by_cases e2 : k = k'
      · rw [if_pos e2, if_pos e2.symm]
      · rw [if_neg e2, if_neg (fun hh => e2 hh.symm)]
    · rw [if_neg e]
      by_cases e3 : x.1 = k
      · rw [if_pos e3, afind, afind]
        by_cases e2 : k = k'
        · rw [if_pos e2, if_pos e2.symm]
        · rw [if_neg e2, if_neg (fun hh => e2 hh.symm), if_neg (by omega)]
      · rw [if_neg e3, afind, ih h.tail, afind]
        by_cases e2 : x.1 = k'
        · rw [if_pos e2, if_pos e2, if_neg (by omega)]
        · rw [if_neg e2, if_neg e2]
theorem afind_drop {l : List (Int × α)} (h : Asc l) (k : Int) (k' : Int) : afind (adrop l k) k' = if k' = k then none else afind l k' := by
  induction l with
  | nil => simp [adrop, afind]
  | cons x l ih =>
    rw [adrop]
    by_cases e : x.1 = k
    · rw [if_pos e]
      by_cases e2 : k' = k
      · rw [if_pos e2]
        exact afind_none fun y hy => by have := h.head hy; omega
      · rw [if_neg e2, afind, if_neg (by omega)]
    · rw [if_neg e, afind, ih h.tail, afind]
      by_cases e2 : x.1 = k'
      · rw [if_pos e2, if_pos e2, if_neg (by omega)]
      · rw [if_neg e2, if_neg e2]
/-- Two of them that tell the same are the same. -/
theorem asc_ext : ∀ {l l' : List (Int × α)}, Asc l → Asc l' → (∀ k, afind l k = afind l' k) → l = l'
  | [], [], _, _, _ => rfl
  | [], y :: l', _, _, h => by have := h y.1; rw [afind, afind, if_pos rfl] at this; cases this
  | x :: l, [], _, _, h => by have := h x.1; rw [afind, afind, if_pos rfl] at this; cases this
  | x :: l, y :: l', h1, h2, h => by
    have a1 := h x.1
    have a2 := h y.1
    rw [afind, if_pos rfl, afind] at a1
    rw [afind, afind, if_pos rfl] at a2
    have hxy : x.1 = y.1 := by
      by_cases e : y.1 = x.1
      · exact e.symm
      · rw [if_neg e] at a1
        rw [if_neg (fun hh => e hh.symm)] at a2
        have b1 := h2.head (afind_mem a1.symm)
        have b2 := h1.head (afind_mem a2)
        have b1 : y.1 < x.1 := b1
        have b2 : x.1 < y.1 := b2
        omega
    rw [if_pos hxy.symm] at a1
    have hxe : x = y := Prod.ext hxy (Option.some.inj a1)
    subst hxe
    congr 1
    refine asc_ext h1.tail h2.tail fun k => ?_
    have := h k
    rw [afind, afind] at this
    by_cases e : x.1 = k
    · rw [afind_none fun z hz => by have := h1.head hz; omega, afind_none fun z hz => by have := h2.head hz; omega]
    · rwa [if_neg e, if_neg e] at this
theorem adrop_none {l : List (Int × α)} {k : Int} (h : afind l k = none) : adrop l k = l := by
  induction l with
  | nil => rfl
  | cons x l ih =>
    rw [afind] at h
    by_cases e : x.1 = k
    · rw [if_pos e] at h; cases h
    · rw [if_neg e] at h; rw [adrop, if_neg e, ih h]
theorem ains_length {l : List (Int × α)} {k : Int} {v : α} (hs : Asc l) : (ains l k v).length = if (afind l k).isSome then l.length else l.length + 1 := by
  induction l with
  | nil => simp [ains, afind]
  | cons x l ih =>
    rw [ains]
    by_cases e : k < x.1
    · rw [if_pos e, afind_none (k := k) fun y hy => by
        rcases List.mem_cons.1 hy with rfl | hy
        · omega
        · have := hs.head hy; omega]
      rfl
    · rw [if_neg e]
      by_cases e2 : x.1 = k
      · rw [if_pos e2, afind, if_pos e2]; rfl
      · rw [if_neg e2, List.length_cons, ih hs.tail, afind, if_neg e2, List.length_cons]
        split <;> rfl
theorem adrop_length {l : List (Int × α)} {k : Int} : (adrop l k).length + (if (afind l k).isSome then 1 else 0) = l.length := by
  induction l with
  | nil => rfl
  | cons x l ih =>
    rw [adrop, afind]
    by_cases e : x.1 = k
    · rw [if_pos e, if_pos e]; rfl
    · rw [if_neg e, if_neg e, List.length_cons, List.length_cons, ← ih]; omega

/-- As the heap has it. -/
def encA (f : Int → α → W) (l : List (Int × α)) : MEs := l.map fun x => (x.1, f x.1 x.2)
theorem mfind_enc {f : Int → α → W} : ∀ (l : List (Int × α)) (k : Int), mfind (encA f l) k = (afind l k).map (f k)
  | [], _ => rfl
  | x :: l, k => by
    show (bif decide (x.1 = k) then some (f x.1 x.2) else mfind (encA f l) k) = (if x.1 = k then some x.2 else afind l k).map (f k)
    by_cases e : x.1 = k
    · rw [decide_eq_true e, cond_true, if_pos e, e]; rfl
    · rw [decide_eq_false e, cond_false, if_neg e, mfind_enc l k]
theorem mins_enc {f : Int → α → W} : ∀ (l : List (Int × α)) (k : Int) (v : α), mins (encA f l) k (f k v) = encA f (ains l k v)
  | [], _, _ => rfl
  | x :: l, k, v => by
    show (bif decide (k < x.1) then (k, f k v) :: (x.1, f x.1 x.2) :: encA f l else bif decide (x.1 = k) then (k, f k v) :: encA f l else (x.1, f x.1 x.2) :: mins (encA f l) k (f k v)) = encA f (ains (x :: l) k v)
    rw [ains]
    by_cases e : k < x.1
    · rw [decide_eq_true e, cond_true, if_pos e]; rfl
    · rw [decide_eq_false e, cond_false, if_neg e]
      by_cases e2 : x.1 = k
      · rw [decide_eq_true e2, cond_true, if_pos e2]; rfl
      · rw [decide_eq_false e2, cond_false, if_neg e2, mins_enc l k v]; rfl
theorem mdrop_enc {f : Int → α → W} : ∀ (l : List (Int × α)) (k : Int), mdrop (encA f l) k = encA f (adrop l k)
  | [], _ => rfl
  | x :: l, k => by
    show (bif decide (x.1 = k) then encA f l else (x.1, f x.1 x.2) :: mdrop (encA f l) k) = encA f (adrop (x :: l) k)
    rw [adrop]
    by_cases e : x.1 = k
    · rw [decide_eq_true e, cond_true, if_pos e]
    · rw [decide_eq_false e, cond_false, if_neg e, mdrop_enc l k]; rfl
theorem enc_keys (f : Int → α → W) (l : List (Int × α)) : (encA f l).map Prod.fst = l.map Prod.fst := by
  unfold encA; rw [List.map_map]; rfl
theorem enc_length (f : Int → α → W) (l : List (Int × α)) : (encA f l).length = l.length := by simp [encA]
theorem enc_congr {f g : Int → α → W} {l : List (Int × α)} (h : ∀ x ∈ l, f x.1 x.2 = g x.1 x.2) : encA f l = encA g l := by
  unfold encA
  exact List.map_congr_left fun x hx => by rw [h x hx]
end

/-! In the heap. -/
def MpA {α : Type} (H : Heap) (b : Nat) (f : Int → α → W) (l : List (Int × α)) : Prop := ∃ dc, H[b]? = some (.mp (encA f l) dc)
section
variable {α : Type} {H : Heap} {b : Nat} {f : Int → α → W} {l : List (Int × α)}
theorem MpA.keep (h : MpA H b f l) {F : Nat → Prop} {H' : Heap} (k : Keep F H H') (hb : ¬ F b) : MpA H' b f l := by
  obtain ⟨dc, h⟩ := h
  exact ⟨dc, k.get h hb⟩
theorem MpA.lt (h : MpA H b f l) : b < H.length := by obtain ⟨dc, h⟩ := h; exact get_lt h
theorem mpAt_of {es : MEs} {dc : Nat} (h : H[b]? = some (.mp es dc)) : H.mpAt b = some (es, dc) := by simp [Heap.mpAt, h]
theorem MpA.get (h : MpA H b f l) (ty : Ty) (zero : W) (k : Int) {v : ty.T} (hv : ty.un (((afind l k).map (f k)).getD zero) = some v) : mget H ty zero (some b) k = some (v, (afind l k).isSome) := by
  obtain ⟨dc, h⟩ := h
  simp only [mget, mgetW, mpAt_of h, Option.bind_some, mfind_enc, hv, Option.isSome_map]
theorem MpA.set (h : MpA H b f l) (k : Int) (v : α) : ∃ H', mset H (some b) k (f k v) = some H' ∧ MpA H' b f (ains l k v) ∧ Keep (fun j => j = b) H H' := by
  obtain ⟨dc, h⟩ := h
  refine ⟨H.set b (.mp (encA f (ains l k v)) dc), ?_, ⟨dc, set_get (get_lt h)⟩, Keep.set _ _ _ rfl⟩
  simp only [mset, Option.bind_some, mpAt_of h, mins_enc]
theorem MpA.del (h : MpA H b f l) (k : Int) : ∃ H', mdel H (some b) k = some H' ∧ MpA H' b f (adrop l k) ∧ Keep (fun j => j = b) H H' := by
  obtain ⟨dc, h⟩ := h
  refine ⟨H.set b (.mp (encA f (adrop l k)) (dc + 1)), ?_, ⟨_, set_get (get_lt h)⟩, Keep.set _ _ _ rfl⟩
  simp only [mdel, mpAt_of h, Option.bind_some, mdrop_enc]
theorem MpA.len (h : MpA H b f l) : mlen H (some b) = some (l.length : Int) := by
  obtain ⟨dc, h⟩ := h
  simp only [mlen, mpAt_of h, Option.bind_some, enc_length]
theorem MpA.keys (h : MpA H b f l) : mkeys H (some b) = some (l.map Prod.fst) := by
  obtain ⟨dc, h⟩ := h
  simp only [mkeys, mpAt_of h, Option.bind_some, enc_keys]
theorem MpA.mat (h : MpA H b f l) (ty : Ty) (k : Int) {v : ty.T} (hv : ((afind l k).map (f k)).bind ty.un = some v) : mat H ty (some b) k = some v := by
  obtain ⟨dc, h⟩ := h
  simp only [Ev.mat, mgetW, mpAt_of h, Option.bind_some, mfind_enc, hv]
theorem MpA.clone (h : MpA H b f l) : mclone (some b) H = some ((some H.length, ()), H ++ [.mp (encA f l) 0]) := by
  obtain ⟨dc, h⟩ := h
  simp only [mclone, mpAt_of h, Option.bind_some]
theorem MpA.sorted (h : MpA H b f l) (hl : l.length ≤ 1099511627776) (hk : ∀ x ∈ l, -9223372036854775808 ≤ x.1 ∧ x.1 ≤ 9223372036854775807) :
    ∃ s G, sortedKeys (some (H.length, 0), ()) (H ++ [.cells [.mp (some b)] .exact]) = some ((s, ()), G) ∧ slRow G 1 s = some ((l.map Prod.fst).map (C.int .i64)) ∧ s.len = l.length ∧ (s.p = none → s.len = 0) ∧ (∀ a, s.p = some a → H.length < a.1) ∧ Keep (fun _ => False) H G := by
  have hb := h.lt
  have hkeys : mkeys (H ++ [.cells [.mp (some b)] .exact]) (some b) = some (l.map Prod.fst) := (h.keep (Keep.push (fun _ => False) H _) id).keys
  have hc : (decide ((l.map Prod.fst).length ≤ 1099511627776) && ((l.map Prod.fst).all fun k => decide (-9223372036854775808 ≤ k ∧ k ≤ 9223372036854775807))) = true := by
    rw [decide_eq_true (by simpa using hl), Bool.true_and, List.all_eq_true]
    intro k hk'
    obtain ⟨x, hx, rfl⟩ := List.mem_map.1 hk'
    exact decide_eq_true (hk x hx)
  have e : sortedKeys (some (H.length, 0), ()) (H ++ [.cells [.mp (some b)] .exact]) = keysSl (H ++ [.cells [.mp (some b)] .exact]) (l.map Prod.fst) := by
    simp only [sortedKeys, Option.bind_some, decide_true, cond_true, List.getElem?_append_right (Nat.le_refl _), Nat.sub_self, List.getElem?_cons_zero, hkeys]
  rw [e, keysSl, hc, cond_true]
  by_cases h0 : l = []
  · subst h0
    exact ⟨⟨none, 0, 0⟩, _, rfl, rfl, rfl, fun _ => rfl, fun a ha => (by cases ha), Keep.push _ _ _⟩
  · rw [decide_eq_false (by simpa using h0), cond_false]
    refine ⟨_, _, rfl, ?_, by simp, fun hh => (by cases hh), fun a ha => by cases ha; simp, (Keep.push _ H _).trans (Keep.push _ _ _)⟩
    unfold slRow
    simp only [Heap.row]
    rw [List.getElem?_append_right (Nat.le_refl _), Nat.sub_self]
    simp [cut]
    exact List.take_of_length_le (by simp)
theorem MpA.head (h : MpA H b f l) : ∃ dc, mhead H (some b) = some (l.length, dc) := by
  obtain ⟨dc, h⟩ := h
  exact ⟨dc, by simp only [mhead, mpAt_of h, Option.bind_some, enc_length]⟩
end
end Ev
