/- What a state has: spaces, pages by one number for space and page, bad blocks, wear. Plain facts. -/
import Derived.Test.YtfmefnejaocopaaAl
set_option linter.unusedSimpArgs false
set_option linter.unusedVariables false
namespace Ev
open Go (IntKind)

/-- Two with one key, one after the other. -/
theorem ains_drop {α : Type} {l : List (Int × α)} (h : Asc l) (k : Int) (v : α) : ains (adrop l k) k v = ains l k v :=
  asc_ext ((h.drop k).ins k v) (h.ins k v) fun k' => by
    rw [afind_ins (h.drop k), afind_ins h, afind_drop h]
    by_cases e : k' = k
    · rw [if_pos e, if_pos e]
    · rw [if_neg e, if_neg e, if_neg e]
/-- How many keys there may be. -/
theorem asc_bound {α : Type} : ∀ {l : List (Int × α)} {a : Int} {n : Nat}, Asc l → (∀ x ∈ l, a ≤ x.1 ∧ x.1 < a + n) → l.length ≤ n
  | [], _, _, _, _ => Nat.zero_le _
  | x :: l, a, n, h, hb => by
    have h1 := hb x (by simp)
    have ih := asc_bound (l := l) (a := x.1 + 1) (n := (a + n - (x.1 + 1)).toNat) h.tail fun y hy => by
      have h2 := h.head hy
      have h3 := hb y (by simp [hy])
      omega
    rw [List.length_cons]
    omega

/-- The pages of a space. -/
def pgs {α : Type} (lv : List (Int × α)) (id : Int) : List (Int × α) := (lv.filter fun x => decide (x.1 / 1024 = id)).map fun x => (x.1 % 1024, x.2)
section
variable {α : Type} {lv : List (Int × α)}
theorem key_div (id p : Int) (h0 : 0 ≤ p) (h1 : p < 1024) : (id * 1024 + p) / 1024 = id ∧ (id * 1024 + p) % 1024 = p := by omega
theorem pgs_asc (h : Asc lv) (id : Int) : Asc (pgs lv id) := by
  unfold pgs Asc
  rw [List.pairwise_map]
  have h1 : (lv.filter fun x => decide (x.1 / 1024 = id)).Pairwise fun x y => x.1 < y.1 := List.Pairwise.filter _ h
  refine h1.imp_of_mem fun {x y} hx hy hlt => ?_
  have hx := (List.mem_filter.1 hx).2
  have hy := (List.mem_filter.1 hy).2
  simp only [decide_eq_true_eq] at hx hy
  show x.1 % 1024 < y.1 % 1024
  omega
theorem pgs_find (h : Asc lv) (id p : Int) : afind (pgs lv id) p = if 0 ≤ p ∧ p < 1024 then afind lv (id * 1024 + p) else none := by
  cases hf : afind (pgs lv id) p with
  | some v =>
    have := afind_mem hf
    unfold pgs at this
    obtain ⟨x, hx, he⟩ := List.mem_map.1 this
    have hx' := List.mem_filter.1 hx
    simp only [decide_eq_true_eq] at hx'
    have e1 : x.1 % 1024 = p := congrArg Prod.fst he
    have e2 : x.2 = v := congrArg Prod.snd he
    rw [if_pos (by omega)]
    have hk : x.1 = id * 1024 + p := by omega
    exact (h.find (k := id * 1024 + p) (v := v) (by rw [← hk, ← e2]; exact hx'.1)).symm
  | none =>
    by_cases hp : 0 ≤ p ∧ p < 1024
    · rw [if_pos hp]
      cases hf2 : afind lv (id * 1024 + p) with
      | none => rfl
      | some v =>
        have hm := afind_mem hf2
        have : (p, v) ∈ pgs lv id := by
          unfold pgs
          exact List.mem_map.2 ⟨(id * 1024 + p, v), List.mem_filter.2 ⟨hm, by simp; omega⟩, by show ((id * 1024 + p) % 1024, v) = (p, v); rw [(key_div id p hp.1 hp.2).2]⟩
        rw [(pgs_asc h id).find this] at hf
        cases hf
    · rw [if_neg hp]
theorem pgs_ins (h : Asc lv) (id p : Int) (v : α) (h0 : 0 ≤ p ∧ p < 1024) (id' : Int) : pgs (ains lv (id * 1024 + p) v) id' = if id' = id then ains (pgs lv id) p v else pgs lv id' := by
  by_cases e : id' = id
  · subst e
    rw [if_pos rfl]
    refine asc_ext (pgs_asc (h.ins _ _) _) ((pgs_asc h _).ins _ _) fun k => ?_
    rw [pgs_find (h.ins _ _), afind_ins h, afind_ins (pgs_asc h _), pgs_find h]
    by_cases e2 : k = p
    · subst e2; rw [if_pos h0, if_pos rfl, if_pos rfl]
    · rw [if_neg e2]
      by_cases h1 : 0 ≤ k ∧ k < 1024
      · rw [if_pos h1, if_pos h1, if_neg (by omega)]
      · rw [if_neg h1, if_neg h1]
  · rw [if_neg e]
    refine asc_ext (pgs_asc (h.ins _ _) _) (pgs_asc h _) fun k => ?_
    rw [pgs_find (h.ins _ _), afind_ins h, pgs_find h]
    by_cases h1 : 0 ≤ k ∧ k < 1024
    · rw [if_pos h1, if_pos h1, if_neg (by omega)]
    · rw [if_neg h1, if_neg h1]
theorem pgs_drop (h : Asc lv) (id p : Int) (h0 : 0 ≤ p ∧ p < 1024) (id' : Int) : pgs (adrop lv (id * 1024 + p)) id' = if id' = id then adrop (pgs lv id) p else pgs lv id' := by
  by_cases e : id' = id
  · subst e
    rw [if_pos rfl]
    refine asc_ext (pgs_asc (h.drop _) _) ((pgs_asc h _).drop _) fun k => ?_
    rw [pgs_find (h.drop _), afind_drop h, afind_drop (pgs_asc h _), pgs_find h]
    by_cases e2 : k = p
    · subst e2; rw [if_pos h0, if_pos rfl, if_pos rfl]
    · rw [if_neg e2]
      by_cases h1 : 0 ≤ k ∧ k < 1024
      · rw [if_pos h1, if_pos h1, if_neg (by omega)]
      · rw [if_neg h1, if_neg h1]
  · rw [if_neg e]
    refine asc_ext (pgs_asc (h.drop _) _) (pgs_asc h _) fun k => ?_
    rw [pgs_find (h.drop _), afind_drop h, pgs_find h]
    by_cases h1 : 0 ≤ k ∧ k < 1024
    · rw [if_pos h1, if_pos h1, if_neg (by omega)]
    · rw [if_neg h1, if_neg h1]
theorem pgs_mem {id : Int} {x : Int × α} (h : x ∈ pgs lv id) : 0 ≤ x.1 ∧ x.1 < 1024 ∧ (id * 1024 + x.1, x.2) ∈ lv := by
  unfold pgs at h
  obtain ⟨y, hy, rfl⟩ := List.mem_map.1 h
  have hy' := List.mem_filter.1 hy
  simp only [decide_eq_true_eq] at hy'
  refine ⟨by show 0 ≤ y.1 % 1024; omega, by show y.1 % 1024 < 1024; omega, ?_⟩
  have : id * 1024 + y.1 % 1024 = y.1 := by omega
  show (id * 1024 + y.1 % 1024, y.2) ∈ lv
  rw [this]; exact hy'.1
end

/-! Places. -/
def cnt (lv : List (Int × Int)) (c : Int) : Nat := (lv.filter fun x => decide (x.2 = c)).length
theorem cnt_nil (c : Int) : cnt [] c = 0 := rfl
theorem cnt_cons (x : Int × Int) (l : List (Int × Int)) (c : Int) : cnt (x :: l) c = (if x.2 = c then 1 else 0) + cnt l c := by
  unfold cnt
  rw [List.filter_cons]
  by_cases h : x.2 = c
  · rw [if_pos (decide_eq_true h), if_pos h, List.length_cons]; omega
  · rw [if_neg (by simpa using h), if_neg h]; omega
theorem cnt_le (lv : List (Int × Int)) (c : Int) : cnt lv c ≤ lv.length := List.length_filter_le _ _
theorem cnt_ins {lv : List (Int × Int)} (h : Asc lv) {k : Int} (hn : afind lv k = none) (v c : Int) : cnt (ains lv k v) c = cnt lv c + (if v = c then 1 else 0) := by
  induction lv with
  | nil => rw [ains, cnt_cons, cnt_nil]; exact Nat.add_comm _ _
  | cons x l ih =>
    rw [afind] at hn
    by_cases e2 : x.1 = k
    · rw [if_pos e2] at hn; cases hn
    · rw [if_neg e2] at hn
      rw [ains]
      by_cases e : k < x.1
      · rw [if_pos e]
        have h1 := cnt_cons (k, v) (x :: l) c
        rw [h1]
        exact Nat.add_comm _ _
      · rw [if_neg e, if_neg e2, cnt_cons, cnt_cons, ih h.tail hn]; omega
theorem cnt_drop {lv : List (Int × Int)} {k v : Int} (hv : afind lv k = some v) (c : Int) : cnt (adrop lv k) c + (if v = c then 1 else 0) = cnt lv c := by
  induction lv with
  | nil => cases hv
  | cons x l ih =>
    rw [afind] at hv
    rw [adrop]
    by_cases e : x.1 = k
    · rw [if_pos e] at hv ⊢; cases hv; rw [cnt_cons]; omega
    · rw [if_neg e] at hv ⊢; rw [cnt_cons, cnt_cons, ← ih hv]; omega
theorem cnt_pos {lv : List (Int × Int)} {k v : Int} (hv : afind lv k = some v) : 0 < cnt lv v := by
  have := cnt_drop hv v
  rw [if_pos rfl] at this
  omega

/-- How many stand at each place. -/
structure RfOK (rf lv : List (Int × Int)) : Prop where
  asc : Asc rf
  find : ∀ c, afind rf c = if cnt lv c = 0 then none else some (cnt lv c : Int)
theorem RfOK.uniq {rf rf' lv : List (Int × Int)} (h : RfOK rf lv) (h' : RfOK rf' lv) : rf = rf' := asc_ext h.asc h'.asc fun c => by rw [h.find, h'.find]
theorem RfOK.get {rf lv : List (Int × Int)} (h : RfOK rf lv) (c : Int) : (afind rf c).getD 0 = (cnt lv c : Int) := by
  rw [h.find]
  by_cases e : cnt lv c = 0
  · rw [if_pos e, e]; rfl
  · rw [if_neg e]; rfl
theorem RfOK.nil : RfOK [] [] := ⟨Asc.nil, fun c => by rw [cnt_nil, if_pos rfl]; rfl⟩
/-- One more, one less. -/
theorem RfOK.more {rf lv lv' : List (Int × Int)} (h : RfOK rf lv) {v : Int} (hc : ∀ c, cnt lv' c = cnt lv c + (if v = c then 1 else 0)) : RfOK (ains rf v ((cnt lv v : Int) + 1)) lv' :=
  ⟨h.asc.ins _ _, fun c => by
    rw [afind_ins h.asc, hc, h.find]
    by_cases e : c = v
    · subst e; rw [if_pos rfl, if_pos rfl, if_neg (by omega)]; congr 1
    · have hv : (if v = c then 1 else 0) = 0 := if_neg fun hh => e hh.symm
      rw [if_neg e, hv]; rfl⟩
theorem RfOK.less {rf lv lv' : List (Int × Int)} (h : RfOK rf lv) {v : Int} (hc : ∀ c, cnt lv' c + (if v = c then 1 else 0) = cnt lv c) :
    RfOK (if cnt lv' v = 0 then adrop (ains rf v (cnt lv' v : Int)) v else ains rf v (cnt lv' v : Int)) lv' := by
  by_cases e0 : cnt lv' v = 0
  · rw [if_pos e0]
    refine ⟨(h.asc.ins _ _).drop _, fun c => ?_⟩
    rw [afind_drop (h.asc.ins _ _), afind_ins h.asc, h.find]
    have := hc c
    by_cases e : c = v
    · subst e; rw [if_pos rfl, if_pos e0]
    · rw [if_neg e, if_neg e]
      rw [if_neg (fun hh => e hh.symm)] at this
      rw [← this]; rfl
  · rw [if_neg e0]
    refine ⟨h.asc.ins _ _, fun c => ?_⟩
    rw [afind_ins h.asc, h.find]
    have := hc c
    by_cases e : c = v
    · subst e; rw [if_pos rfl, if_neg e0]
    · rw [if_neg e]
      rw [if_neg (fun hh => e hh.symm)] at this
      rw [← this]; rfl
/-- The table of a list. -/
def rfOf : List (Int × Int) → List (Int × Int)
  | [] => []
  | x :: l => ains (rfOf l) x.2 ((cnt l x.2 : Int) + 1)
theorem rfOf_ok : ∀ lv : List (Int × Int), RfOK (rfOf lv) lv
  | [] => RfOK.nil
  | x :: l => (rfOf_ok l).more fun c => by rw [cnt_cons]; omega

structure Sta where
  sp : List (Int × Int × Bool)
  lv : List (Int × Int)
  bd : List (Int × Unit)
  wn : List (Int × Int)

structure SaW (st : Sta) : Prop where
  sp : Asc st.sp
  lv : Asc st.lv
  bd : Asc st.bd
  wn : Asc st.wn
  own : ∀ x ∈ st.lv, (afind st.sp (x.1 / 1024)).isSome = true
  ids : ∀ x ∈ st.sp, 1 ≤ x.1 ∧ x.1 ≤ 15 ∧ x.2.1 ≤ 1024
  bds : ∀ x ∈ st.bd, 0 ≤ x.1 ∧ x.1 ≤ 31
  wns : ∀ x ∈ st.wn, 0 ≤ x.1 ∧ x.1 ≤ 31
theorem SaW.lvs {st : Sta} (w : SaW st) : ∀ x ∈ st.lv, 1024 ≤ x.1 ∧ x.1 < 1024 + 15360 := by
  intro x hx
  obtain ⟨v, hv⟩ := Option.isSome_iff_exists.1 (w.own x hx)
  have := w.ids _ (afind_mem hv)
  have h1 : 1 ≤ x.1 / 1024 ∧ x.1 / 1024 ≤ 15 := ⟨this.1, this.2.1⟩
  omega
theorem SaW.many {st : Sta} (w : SaW st) : st.lv.length ≤ 15360 := asc_bound w.lv w.lvs
theorem SaW.cnts {st : Sta} (w : SaW st) (c : Int) : cnt st.lv c ≤ 15360 := Nat.le_trans (cnt_le _ _) w.many
theorem SaW.few {st : Sta} (w : SaW st) : st.sp.length ≤ 15 := asc_bound (a := 1) w.sp fun x hx => by have := w.ids x hx; omega
theorem SaW.pgl {st : Sta} (w : SaW st) (id : Int) : (pgs st.lv id).length ≤ 1024 := asc_bound (a := 0) (pgs_asc w.lv id) fun x hx => by have := pgs_mem hx; omega
end Ev
