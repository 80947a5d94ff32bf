/- slices.Sort of numbers as a sound callee: by the shelf's contract, over any program that bears its bodies. -/
import Derived.Test.YtpebaginkkbnpaaGreatEvRep
import Derived.Shelf.Sort.Plain
import Derived.Shelf.Slices.In.SortNone
namespace Ev
open Go Go.Shelf Go.Proofs

theorem intsOf_some : ∀ {cs : List C} {zs : List Int}, intsOf cs = some zs → cs = zs.map (C.int .i64)
  | [], zs, h => by cases h; rfl
  | c :: r, zs, h => by
    cases c with
    | int k n =>
      cases k <;> simp only [intsOf] at h <;> try contradiction
      obtain ⟨s, h1, h2⟩ := Option.bind_some_inv h
      cases h2
      rw [intsOf_some h1]; rfl
    | _ => simp only [intsOf] at h; contradiction
theorem ints_rel {ρ : Rho} : ∀ zs : List Int, CsRel ρ (zs.map (C.int .i64)) (zs.map (Value.int .i64))
  | [] => trivial
  | _ :: r => ⟨rfl, ints_rel r⟩
theorem ints_vals {ρ : Rho} : ∀ {zs : List Int} {vs : List Value}, CsRel ρ (zs.map (C.int .i64)) vs → vs = zs.map (Value.int .i64)
  | [], [], _ => rfl
  | z :: r, v :: vs, ⟨a, b⟩ => by
    have a : v = .int .i64 z := a
    rw [a, ints_vals b]; rfl
  | [], _ :: _, h => h.elim
  | _ :: _, [], h => h.elim
theorem setV_get : ∀ (us vs : List Value) (o k : Nat), o + us.length ≤ vs.length → (setV vs o us)[k]? = if o ≤ k ∧ k < o + us.length then us[k - o]? else vs[k]?
  | [], vs, o, k, _ => by
    rw [if_neg (by simp only [List.length_nil]; omega)]; rfl
  | u :: r, vs, o, k, h => by
    simp only [List.length_cons] at h
    simp only [setV]
    rw [setV_get r (vs.set o u) (o + 1) k (by simp; omega)]
    by_cases h1 : k = o
    · subst h1
      rw [if_neg (by omega), if_pos (by simp only [List.length_cons]; omega), Nat.sub_self, List.getElem?_set_self (by omega)]
      rfl
    · by_cases h2 : o + 1 ≤ k ∧ k < o + 1 + r.length
      · rw [if_pos h2, if_pos (by simp only [List.length_cons]; omega)]
        rw [show k - o = (k - (o + 1)) + 1 by omega]; rfl
      · rw [if_neg h2, if_neg (by simp only [List.length_cons]; omega), List.getElem?_set_ne (fun e => h1 e.symm)]
theorem putCells_list (off : Nat) (d : List Int) (vs : List Value) (h : off + d.length ≤ vs.length) : Go.Sort.putCells (Value.int .i64) off d.toArray vs.toArray = (setV vs off (d.map (Value.int .i64))).toArray := by
  apply Array.ext_getElem?
  intro k
  unfold Go.Sort.putCells
  rw [Array.getElem?_mapIdx, List.getElem?_toArray, List.getElem?_toArray, setV_get _ _ _ _ (by rw [List.length_map]; exact h), List.length_map]
  by_cases hk : off ≤ k ∧ k < off + d.length
  · rw [if_pos hk, List.getElem?_map]
    have hk2 : k - off < d.length := by omega
    rw [List.getElem?_eq_getElem (show k < vs.length by omega), Option.map_some, List.getElem?_eq_getElem hk2, Option.map_some, if_pos (by simpa using hk)]
    congr 2
    rw [getElem!_pos _ _ (by simpa using hk2)]; simp
  · rw [if_neg hk]
    cases hv : vs[k]? with
    | none => rfl
    | some x => rw [Option.map_some, if_neg (by simpa using hk)]

theorem sort_tied {P : Program} {ρ : Ren} (L : Lays.n189 P ρ) (nm : ((Body.n189 ρ).name == "runtime.NumGoroutine") = false) (hb : (Body.n189 ρ).body.isNone = false) : Tied P slices_Sort_int_int.c (ρ.f 189) := by
  refine ⟨?_, ⟨_, L.f189, nm, hb⟩⟩
  intro r H w t x H' vs hR hvs hg
  obtain ⟨s, u⟩ := t
  match vs, hvs with
  | [v], ⟨hv, _⟩ =>
    have hv : CRel r (.sl 1 s) v := hv
    have hg : slices_Sort_int_int s H = some ((), H') := hg
    obtain ⟨p, len, cap⟩ := s
    unfold slices_Sort_int_int at hg
    by_cases h0 : len = 0
    · subst h0
      rw [show decide (((⟨p, 0, cap⟩ : Sl).len) = 0) = true from rfl] at hg
      cases hg
      have key : ∃ q c, v = .slice q 0 c := by
        cases p with
        | none => obtain ⟨_, _, h⟩ := hv; exact ⟨_, _, h⟩
        | some a => obtain ⟨_, x, c, _, h, _⟩ := hv; exact ⟨_, _, h⟩
      obtain ⟨q, c, rfl⟩ := key
      refine (Any.slices_Sort_int_none L q c w).mono ?_
      rintro e w' ⟨rfl, rfl⟩
      exact ⟨_, r, rfl, ⟨[], rfl, trivial⟩, hR, Ext.refl _ _ _⟩
    · rw [show decide (((⟨p, len, cap⟩ : Sl).len) = 0) = false from decide_eq_false h0] at hg
      obtain ⟨a, ha, hg1⟩ := Option.bind_some_inv hg
      clear hg
      have ha : p = some a := ha
      subst ha
      obtain ⟨cs, hcs, hg2⟩ := Option.bind_some_inv hg1
      clear hg1
      obtain ⟨zs, hzs, hg3⟩ := Option.bind_some_inv hg2
      clear hg2
      have hc := intsOf_some hzs
      subst hc
      obtain ⟨hd, hg4⟩ := cond_some_inv hg3
      clear hg3
      have hsz := of_decide_eq_true hd
      obtain ⟨H2, hw, hg5⟩ := Option.bind_some_inv hg4
      clear hg4
      cases hg5
      obtain ⟨pl, q, c, g1, rfl, f1, f2, f3, f4, f5⟩ := hv
      obtain ⟨qb, qo, qs⟩ := q
      simp only at f1 f2 f3 f4 f5
      subst f1 f2
      rcases f5 with ⟨f5, _⟩ | ⟨f5, _⟩
      rotate_left
      · omega
      subst f5
      have hrow : Heap.row H a.1 a.2 (len * 1) = some (zs.map (C.int .i64)) := hcs
      obtain ⟨vs, el, fr, r1, r2, r3⟩ := hR.row g1 hrow
      have hvals := ints_vals r3
      have hlz : zs.length = len := by
        have := congrArg List.length hvals
        rw [List.length_take, List.length_drop, List.length_map] at this
        omega
      have hperm : (zs.mergeSort fun x y => decide (x ≤ y)).length = zs.length := List.length_mergeSort zs
      obtain ⟨vs2, el2, fr2, s1, s2, s3, s4, s5⟩ := hR.store g1 hw (ints_rel _)
      rw [r1] at s1
      cases s1
      rw [List.length_map, hperm] at s2
      have hk : pl.k < w.heap.size := by
        by_cases h : pl.k < w.heap.size
        · exact h
        · rw [Array.getElem?_eq_none (by omega)] at r1; cases r1
      have hH : Go.Sort.Holds (Value.int .i64) w pl.k (pl.base + a.2) zs.toArray := by
        intro j hj
        have hj : j < zs.length := by simpa using hj
        have hget : vs[pl.base + a.2 + j]? = some (.int .i64 zs[j]) := by
          have h1 : ((vs.drop (pl.base + a.2)).take (len * 1))[j]? = (zs.map (Value.int .i64))[j]? := by rw [hvals]
          rw [List.getElem?_take, if_pos (by omega), List.getElem?_drop, List.getElem?_map, List.getElem?_eq_getElem hj] at h1
          exact h1
        constructor
        · unfold World.cell?
          simp only [r1, Option.isSome_none, Bool.false_eq_true, if_false, List.getElem?_toArray, hget]
          rw [getElem!_pos _ _ (by simpa using hj)]; simp
        · unfold World.frozen?
          simp only [r1]
          obtain ⟨lo, hi⟩ := fr
          by_cases h1 : lo ≤ pl.base + a.2 + j
          · by_cases h2 : pl.base + a.2 + j < hi
            · have := s3 _ h1 h2
              omega
            · simp [h2]
          · simp [h1]
      have hcall := Any.slices_Sort_int L pl.k (pl.base + a.2) c zs w hH hk hsz
      rw [hlz] at hcall
      refine hcall.mono ?_
      rintro e w' ⟨rfl, n, os, rfl⟩
      have hsame : ∀ k, k < w.heap.size → (Go.Sort.grow (Go.Sort.putRow (Value.int .i64) (Go.Sort.ahead w n) pl.k (pl.base + a.2) (zs.mergeSort fun x y => decide (x ≤ y)).toArray) os).heap[k]? = (putRow w pl.k (.cells (setV vs (pl.base + a.2) ((zs.mergeSort fun x y => decide (x ≤ y)).map (Value.int .i64))).toArray el fr)).heap[k]? := by
        intro k hk2
        show ((w.heap.modify pl.k (Go.Sort.onCells (Go.Sort.putCells (Value.int .i64) (pl.base + a.2) (zs.mergeSort fun x y => decide (x ≤ y)).toArray))) ++ os)[k]? = (w.heap.setIfInBounds pl.k _)[k]?
        rw [Array.getElem?_append_left (by simpa using hk2), Array.getElem?_modify]
        by_cases e : pl.k = k
        · subst e
          rw [if_pos rfl, r1, Option.map_some, Array.getElem?_setIfInBounds_self_of_lt hk]
          show some (Obj.cells (Go.Sort.putCells (Value.int .i64) (pl.base + a.2) _ vs.toArray) el fr) = _
          rw [putCells_list _ _ _ (by rw [hperm]; omega)]
        · rw [if_neg e, Array.getElem?_setIfInBounds_ne e]
      have hsize : (putRow w pl.k (.cells (setV vs (pl.base + a.2) ((zs.mergeSort fun x y => decide (x ≤ y)).map (Value.int .i64))).toArray el fr)).heap.size = w.heap.size := by simp [putRow]
      refine ⟨_, r, rfl, ⟨[], rfl, trivial⟩, s4.world fun k hk2 => hsame k (by rw [hsize] at hk2; exact hk2), ⟨s5.le, s5.len, s5.new, s5.wr, ?_, rfl, rfl, rfl, fun j hj hno => ?_⟩⟩
      · show w.heap.size ≤ ((w.heap.modify pl.k _) ++ os).size
        simp
      · rw [hsame j hj]; exact s5.frame j hj hno
end Ev
