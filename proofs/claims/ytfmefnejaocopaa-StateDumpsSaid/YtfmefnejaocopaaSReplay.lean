/- The records that a state tells make it of nothing. Plain facts. -/
import Derived.Test.YtfmefnejaocopaaSPair
set_option linter.unusedSimpArgs false
set_option linter.unusedVariables false
namespace Ev
open Go (IntKind)

/-- What holds of a state that records have made. -/
structure SaX (st : Sta) : Prop where
  q : ∀ id y, afind st.sp id = some y → 1 ≤ y.1
  lv : ∀ k v, afind st.lv k = some v → 0 ≤ v ∧ v ≤ 511 ∧ ∀ y, afind st.sp (k / 1024) = some y → k % 1024 < y.1
  wn : ∀ k v, afind st.wn k = some v → 0 ≤ v ∧ v ≤ 1073741824
theorem SaX.nil : SaX ⟨[], [], [], []⟩ := ⟨fun id y h => (by cases h), fun k v h => (by cases h), fun k v h => (by cases h)⟩
def rcR (k s p pl t n : Int) : RecT := (k, s, p, pl, t, n, ())
section
variable {st : Sta} {x : RecT}
theorem SaW.has (w : SaW st) {k v : Int} (h : afind st.lv k = some v) : ∃ y, afind st.sp (k / 1024) = some y := Option.isSome_iff_exists.1 (w.own (k, v) (afind_mem h))
theorem SaX.spi (w : SaW st) (h : SaX st) {id q : Int} {b : Bool} (hq : 1 ≤ q) (hk : ∀ k v, afind st.lv k = some v → k / 1024 = id → k % 1024 < q) : SaX ⟨ains st.sp id (q, b), st.lv, st.bd, st.wn⟩ :=
  ⟨fun id' y hy => by
    have hy : afind (ains st.sp id (q, b)) id' = some y := hy
    rw [afind_ins w.sp] at hy
    split at hy
    · cases hy; exact hq
    · exact h.q id' y hy,
   fun k v hv => ⟨(h.lv k v hv).1, (h.lv k v hv).2.1, fun y hy => by
    have hy : afind (ains st.sp id (q, b)) (k / 1024) = some y := hy
    rw [afind_ins w.sp] at hy
    split at hy
    · rename_i e
      cases hy; exact hk k v hv e
    · exact (h.lv k v hv).2.2 y hy⟩, h.wn⟩
theorem SaX.made (w : SaW st) (h : SaX st) {id q : Int} (hq : 1 ≤ q) {P : List (Int × Int)} (hP : Asc P) (hpq : ∀ p a, afind P p = some a → 0 ≤ p ∧ p < 1024 ∧ p < q ∧ 0 ≤ a ∧ a ≤ 511) (hn : afind st.sp id = none) : SaX ⟨ains st.sp id (q, false), insAll id st.lv P, st.bd, st.wn⟩ := by
  have h1 := SaX.spi w h (b := false) hq (id := id) fun k v hv e => by
    obtain ⟨y, hy⟩ := w.has hv
    rw [e, hn] at hy; cases hy
  refine ⟨h1.q, fun k v hv => ?_, h.wn⟩
  have hv : afind (insAll id st.lv P) k = some v := hv
  rw [insAll_find k w.lv hP] at hv
  cases hf : afind P (k - id * 1024) with
  | some u =>
    rw [hf] at hv
    cases hv
    have := hpq _ _ hf
    refine ⟨this.2.2.2.1, this.2.2.2.2, fun y hy => ?_⟩
    have hy : afind (ains st.sp id (q, false)) (k / 1024) = some y := hy
    rw [show k / 1024 = id by omega, afind_ins w.sp, if_pos rfl] at hy
    cases hy
    show k % 1024 < q
    omega
  | none =>
    rw [hf] at hv
    exact h1.lv k v hv
theorem SaX.doS (w : SaW st) (h : SaX st) (x : RecT) : SaX (st.doS x).2 := by
  unfold Sta.doS
  by_cases hc : chkR x = true
  · rw [if_pos hc]
    have g := hc
    unfold chkR at g
    unfold Sta.applyS
    by_cases k4 : x.1 = 4
    · rw [if_pos k4]
      simp only [k4, inAll, inB] at g
      simp at g
      unfold Sta.openS
      cases hf : afind st.sp x.2.1 with
      | some y => exact h
      | none => exact SaX.made w h (by omega) Asc.nil (fun p a hh => by cases hh) hf
    rw [if_neg k4]
    by_cases k3 : x.1 = 3
    · rw [if_pos k3]
      simp only [k3, inAll, inB] at g
      simp at g
      unfold Sta.moveS
      by_cases e1 : cnt st.lv x.2.2.2.1 = 0
      · rw [if_pos e1]; exact h
      rw [if_neg e1]
      by_cases e2 : 0 < cnt st.lv x.2.2.2.2.1
      · rw [if_pos e2]; exact h
      rw [if_neg e2]
      refine ⟨h.q, fun k v hv => ?_, h.wn⟩
      have hv : afind (mv x.2.2.2.1 x.2.2.2.2.1 st.lv) k = some v := hv
      rw [mv_find] at hv
      cases hf : afind st.lv k with
      | none => rw [hf] at hv; cases hv
      | some u =>
        rw [hf] at hv
        have hl := h.lv k u hf
        have hv : (if u = x.2.2.2.1 then x.2.2.2.2.1 else u) = v := Option.some.inj hv
        refine ⟨?_, ?_, hl.2.2⟩
        · split at hv <;> omega
        · split at hv <;> omega
    rw [if_neg k3]
    by_cases k8 : x.1 = 8
    · rw [if_pos k8]; exact ⟨h.q, h.lv, h.wn⟩
    rw [if_neg k8]
    by_cases k9 : x.1 = 9
    · rw [if_pos k9]
      simp only [k9, inAll, inB] at g
      simp at g
      refine ⟨h.q, h.lv, fun k v hv => ?_⟩
      have hv : afind (ains st.wn x.2.2.2.1 (if x.2.2.2.2.2.1 > (afind st.wn x.2.2.2.1).getD 0 then x.2.2.2.2.2.1 else (afind st.wn x.2.2.2.1).getD 0)) k = some v := hv
      rw [afind_ins w.wn] at hv
      split at hv
      · have hv := Option.some.inj hv
        have : 0 ≤ (afind st.wn x.2.2.2.1).getD 0 ∧ (afind st.wn x.2.2.2.1).getD 0 ≤ 1073741824 := by
          cases hf : afind st.wn x.2.2.2.1 with
          | none => decide
          | some u => exact h.wn _ _ hf
        split at hv <;> omega
      · exact h.wn k v hv
    rw [if_neg k9]
    cases hf : afind st.sp x.2.1 with
    | none => exact h
    | some s =>
      simp only
      by_cases k1 : x.1 = 1
      · rw [if_pos k1]
        simp only [k1, inAll, inB] at g
        simp at g
        by_cases e1 : x.2.2.1 < 0
        · rw [if_pos e1]; exact h
        rw [if_neg e1]
        by_cases e2 : s.1 ≤ x.2.2.1
        · rw [if_pos e2]; exact h
        rw [if_neg e2]
        refine ⟨h.q, fun k v hv => ?_, h.wn⟩
        have hv : afind (ains st.lv (x.2.1 * 1024 + x.2.2.1) x.2.2.2.1) k = some v := hv
        rw [afind_ins w.lv] at hv
        split at hv
        · rename_i e
          have hv := Option.some.inj hv
          refine ⟨by omega, by omega, fun y hy => ?_⟩
          have hy : afind st.sp (k / 1024) = some y := hy
          rw [show k / 1024 = x.2.1 by omega, hf] at hy
          cases hy
          omega
        · exact h.lv k v hv
      rw [if_neg k1]
      by_cases k2 : x.1 = 2
      · rw [if_pos k2]
        split
        · refine ⟨h.q, fun k v hv => ?_, h.wn⟩
          have hv : afind (adrop st.lv (x.2.1 * 1024 + x.2.2.1)) k = some v := hv
          rw [afind_drop w.lv] at hv
          split at hv
          · cases hv
          · exact h.lv k v hv
        · exact h
      rw [if_neg k2]
      by_cases k5 : x.1 = 5
      · rw [if_pos k5]
        refine ⟨fun id y hy => ?_, fun k v hv => ?_, h.wn⟩
        · have hy : afind (adrop st.sp x.2.1) id = some y := hy
          rw [afind_drop w.sp] at hy
          split at hy
          · cases hy
          · exact h.q id y hy
        · have hm := List.mem_filter.1 (afind_mem hv)
          have hl := h.lv k v (w.lv.find hm.1)
          refine ⟨hl.1, hl.2.1, fun y hy => ?_⟩
          have hy : afind (adrop st.sp x.2.1) (k / 1024) = some y := hy
          rw [afind_drop w.sp] at hy
          split at hy
          · cases hy
          · exact hl.2.2 y hy
      rw [if_neg k5]
      by_cases k6 : x.1 = 6
      · rw [if_pos k6]
        unfold Sta.openS
        cases hf2 : afind st.sp x.2.2.2.2.1 with
        | some y => exact h
        | none =>
          refine SaX.made w h (h.q _ _ hf) (pgs_asc w.lv _) (fun p a hp => ?_) hf2
          rw [pgs_find w.lv] at hp
          by_cases e : 0 ≤ p ∧ p < 1024
          · rw [if_pos e] at hp
            have hl := h.lv _ _ hp
            have := hl.2.2 s (by rw [(key_div x.2.1 p e.1 e.2).1]; exact hf)
            rw [(key_div x.2.1 p e.1 e.2).2] at this
            exact ⟨e.1, e.2, this, hl.1, hl.2.1⟩
          · rw [if_neg e] at hp; cases hp
      rw [if_neg k6]
      refine SaX.spi w h (h.q _ _ hf) fun k v hv e => (h.lv k v hv).2.2 s (by rw [e]; exact hf)
  · rw [if_neg hc]; exact h
end
theorem inB_t {n a b : Int} (h : a ≤ n ∧ n ≤ b) : inB n a b = true := decide_eq_true h
theorem chk1 {id p a : Int} (h1 : 1 ≤ id ∧ id ≤ 15) (h2 : 0 ≤ p ∧ p ≤ 1023) (h3 : 0 ≤ a ∧ a ≤ 511) : chkR (rcR 1 id p a 0 0) = true := by
  show (inB id 1 15 && (inB p 0 1023 && (inB a 0 511 && true)) && decide ((0 : Int) = 0 ∧ (0 : Int) = 0)) = true
  rw [inB_t h1, inB_t h2, inB_t h3]; rfl
theorem chk4 {id q : Int} (h1 : 1 ≤ id ∧ id ≤ 15) (h2 : 1 ≤ q ∧ q ≤ 1024) : chkR (rcR 4 id 0 0 0 q) = true := by
  show (inB id 1 15 && (inB q 1 1024 && true) && decide ((0 : Int) = 0 ∧ (0 : Int) = 0 ∧ (0 : Int) = 0)) = true
  rw [inB_t h1, inB_t h2]; rfl
theorem chk7 {id : Int} (h1 : 1 ≤ id ∧ id ≤ 15) : chkR (rcR 7 id 0 0 0 0) = true := by
  show (inB id 1 15 && true && decide ((0 : Int) = 0 ∧ (0 : Int) = 0 ∧ (0 : Int) = 0 ∧ (0 : Int) = 0)) = true
  rw [inB_t h1]; rfl
theorem chk8 {b : Int} (h1 : 0 ≤ b ∧ b ≤ 31) : chkR (rcR 8 0 0 b 0 0) = true := by
  show (inB b 0 31 && true && decide ((0 : Int) = 0 ∧ (0 : Int) = 0 ∧ (0 : Int) = 0 ∧ (0 : Int) = 0)) = true
  rw [inB_t h1]; rfl
theorem chk9 {b n : Int} (h1 : 0 ≤ b ∧ b ≤ 31) (h2 : 0 ≤ n ∧ n ≤ 1073741824) : chkR (rcR 9 0 0 b 0 n) = true := by
  show (inB b 0 31 && (inB n 0 1073741824 && true) && decide ((0 : Int) = 0 ∧ (0 : Int) = 0 ∧ (0 : Int) = 0)) = true
  rw [inB_t h1, inB_t h2]; rfl
/-- Records that are all taken. -/
def runS : Sta → List RecT → Option Sta
  | st, [] => some st
  | st, x :: l => if (st.doS x).1 = 0 then runS (st.doS x).2 l else none
theorem runS_append : ∀ (st : Sta) (l l' : List RecT), runS st (l ++ l') = (runS st l).bind fun st' => runS st' l'
  | st, [], l' => rfl
  | st, x :: l, l' => by
    rw [List.cons_append, runS, runS]
    split
    · exact runS_append _ l l'
    · rfl
theorem runS_one {st st' : Sta} {x : RecT} (h : st.doS x = (0, st')) (l : List RecT) : runS st (x :: l) = runS st' l := by rw [runS, h, if_pos rfl]
theorem ains_twice {α : Type} {l : List (Int × α)} (h : Asc l) (k : Int) (v v' : α) : ains (ains l k v) k v' = ains l k v' :=
  asc_ext ((h.ins _ _).ins _ _) (h.ins _ _) fun j => by
    rw [afind_ins (h.ins _ _), afind_ins h, afind_ins h]
    split <;> rfl
theorem run_puts {sp : List (Int × Int × Bool)} {bd : List (Int × Unit)} {wn : List (Int × Int)} {id q : Int} {b : Bool} (hid : 1 ≤ id ∧ id ≤ 15) (hf : afind sp id = some (q, b)) : ∀ (P : List (Int × Int)) (lv : List (Int × Int)), (∀ y ∈ P, 0 ≤ y.1 ∧ y.1 < 1024 ∧ y.1 < q ∧ 0 ≤ y.2 ∧ y.2 ≤ 511) →
    runS ⟨sp, lv, bd, wn⟩ (P.map fun y => (rcR 1 id y.1 y.2 0 0)) = some ⟨sp, insAll id lv P, bd, wn⟩
  | [], lv, _ => rfl
  | y :: P, lv, h => by
    have hy := h y (by simp)
    rw [List.map_cons]
    have h1 : (Sta.mk sp lv bd wn).doS (rcR 1 id y.1 y.2 0 0) = (0, ⟨sp, ains lv (id * 1024 + y.1) y.2, bd, wn⟩) := by
      unfold Sta.doS
      rw [if_pos (chk1 hid (by omega) (by omega))]
      unfold Sta.applyS
      show (match afind sp id with | none => _ | some s => _) = _
      rw [hf]
      show (if y.1 < 0 then _ else if q ≤ y.1 then _ else _) = _
      rw [if_neg (by omega), if_neg (by omega)]; rfl
    refine (runS_one h1 _).trans ((run_puts hid hf P _ fun z hz => h z (by simp [hz])).trans ?_)
    unfold insAll; rfl
theorem run_space {lv : List (Int × Int)} {sp : List (Int × Int × Bool)} {lv0 : List (Int × Int)} {bd : List (Int × Unit)} {wn : List (Int × Int)} {id q : Int} {b : Bool} (hs : Asc sp) (hid : 1 ≤ id ∧ id ≤ 15) (hq : 1 ≤ q ∧ q ≤ 1024) (hf : afind sp id = none) (hP : ∀ y ∈ pgs lv id, 0 ≤ y.1 ∧ y.1 < 1024 ∧ y.1 < q ∧ 0 ≤ y.2 ∧ y.2 ≤ 511) :
    runS ⟨sp, lv0, bd, wn⟩ (dumpS lv (id, q, b)) = some ⟨ains sp id (q, b), insAll id lv0 (pgs lv id), bd, wn⟩ := by
  unfold dumpS
  have h1 : (Sta.mk sp lv0 bd wn).doS (rcR 4 id 0 0 0 q) = (0, ⟨ains sp id (q, false), lv0, bd, wn⟩) := by
    unfold Sta.doS
    rw [if_pos (chk4 hid hq)]
    show (Sta.mk sp lv0 bd wn).openS id q [] = _
    unfold Sta.openS
    rw [show afind (Sta.mk sp lv0 bd wn).sp id = none from hf]; rfl
  have hf1 : afind (ains sp id (q, false)) id = some (q, false) := by rw [afind_ins hs, if_pos rfl]
  refine (runS_one h1 _).trans ?_
  have h2 := runS_append ⟨ains sp id (q, false), lv0, bd, wn⟩ ((pgs lv id).map fun y => (rcR 1 id y.1 y.2 0 0)) (if b = true then [rcR 7 id 0 0 0 0] else [])
  refine h2.trans ?_
  rw [run_puts hid hf1 _ _ hP, Option.bind_some]
  cases b with
  | false => rfl
  | true =>
    rw [if_pos rfl]
    have h3 : (Sta.mk (ains sp id (q, false)) (insAll id lv0 (pgs lv id)) bd wn).doS (rcR 7 id 0 0 0 0) = (0, ⟨ains (ains sp id (q, false)) id (q, true), insAll id lv0 (pgs lv id), bd, wn⟩) := by
      unfold Sta.doS
      rw [if_pos (chk7 hid)]
      unfold Sta.applyS
      show (match afind (ains sp id (q, false)) id with | none => _ | some s => _) = _
      rw [hf1]; rfl
    rw [ains_twice hs] at h3
    exact runS_one h3 []
/-- The leaves of some spaces. -/
def lvIn (lv : List (Int × Int)) (A : List (Int × Int × Bool)) : List (Int × Int) := lv.filter fun x => decide (x.1 / 1024 ∈ A.map Prod.fst)
theorem lvIn_asc {lv : List (Int × Int)} (h : Asc lv) (A : List (Int × Int × Bool)) : Asc (lvIn lv A) := h.sub List.filter_sublist
theorem lvIn_find {lv : List (Int × Int)} (h : Asc lv) (A : List (Int × Int × Bool)) (k : Int) : afind (lvIn lv A) k = if k / 1024 ∈ A.map Prod.fst then afind lv k else none := by
  cases hf : afind (lvIn lv A) k with
  | some v =>
    have hm := List.mem_filter.1 (afind_mem hf)
    have h1 : k / 1024 ∈ A.map Prod.fst := by simpa using hm.2
    rw [if_pos h1, h.find hm.1]
  | none =>
    by_cases e : k / 1024 ∈ A.map Prod.fst
    · rw [if_pos e]
      cases hg : afind lv k with
      | none => rfl
      | some v =>
        have hm : (k, v) ∈ lvIn lv A := List.mem_filter.2 ⟨afind_mem hg, by simpa using e⟩
        rw [(lvIn_asc h A).find hm] at hf
        cases hf
    · rw [if_neg e]
theorem run_spaces {st : Sta} (w : SaW st) (h : SaX st) {bd : List (Int × Unit)} {wn : List (Int × Int)} : ∀ (B A : List (Int × Int × Bool)), A ++ B = st.sp → runS ⟨A, lvIn st.lv A, bd, wn⟩ (B.map (dumpS st.lv)).flatten = some ⟨st.sp, lvIn st.lv st.sp, bd, wn⟩
  | [], A, e => by rw [List.append_nil] at e; subst e; rfl
  | (id, q, b) :: B, A, e => by
    have hA : Asc A := by have := w.sp; rw [← e] at this; exact this.sub (List.sublist_append_left _ _)
    have hmem : (id, q, b) ∈ st.sp := by rw [← e]; simp
    have hf := w.sp.find hmem
    have hlt : ∀ x ∈ A, x.1 < id := fun x hx => by
      have := w.sp
      rw [← e] at this
      exact (List.pairwise_append.1 this).2.2 x hx (id, q, b) (by simp)
    have hfA : afind A id = none := afind_none fun x hx hh => by have := hlt x hx; omega
    have hids := w.ids _ hmem
    rw [List.map_cons, List.flatten_cons]
    have h2 := runS_append ⟨A, lvIn st.lv A, bd, wn⟩ (dumpS st.lv (id, q, b)) (B.map (dumpS st.lv)).flatten
    refine h2.trans ?_
    rw [run_space hA ⟨hids.1, hids.2.1⟩ ⟨h.q _ _ hf, hids.2.2⟩ hfA (fun y hy => by
      have hm := pgs_mem hy
      have hl := h.lv _ _ (w.lv.find hm.2.2)
      have := hl.2.2 (q, b) (by rw [(key_div id y.1 hm.1 hm.2.1).1]; exact hf)
      rw [(key_div id y.1 hm.1 hm.2.1).2] at this
      exact ⟨hm.1, hm.2.1, this, hl.1, hl.2.1⟩), Option.bind_some]
    have e1 : ains A id (q, b) = A ++ [(id, q, b)] := ains_snoc _ hlt
    have e2 : insAll id (lvIn st.lv A) (pgs st.lv id) = lvIn st.lv (A ++ [(id, q, b)]) := by
      refine asc_ext (insAll_asc (lvIn_asc w.lv A)) (lvIn_asc w.lv _) fun k => ?_
      rw [insAll_find k (lvIn_asc w.lv A) (pgs_asc w.lv id), pgs_find w.lv, lvIn_find w.lv, lvIn_find w.lv, show id * 1024 + (k - id * 1024) = k by omega]
      have hnA : id ∉ A.map Prod.fst := fun hm => by
        obtain ⟨x, hx, hxe⟩ := List.mem_map.1 hm
        have := hlt x hx; omega
      by_cases c1 : k / 1024 = id
      · rw [if_pos (show 0 ≤ k - id * 1024 ∧ k - id * 1024 < 1024 by omega), if_neg (by rw [c1]; exact hnA), if_pos (by rw [c1]; simp), Option.or_none]
      · rw [if_neg (show ¬ (0 ≤ k - id * 1024 ∧ k - id * 1024 < 1024) by omega), Option.none_or]
        by_cases c2 : k / 1024 ∈ A.map Prod.fst
        · rw [if_pos c2, if_pos (by rw [List.map_append]; exact List.mem_append_left _ c2)]
        · rw [if_neg c2, if_neg (by rw [List.map_append]; intro hm; exact (List.mem_append.1 hm).elim c2 fun hh => c1 (by simpa using hh))]
    rw [e1, e2]
    exact run_spaces w h B (A ++ [(id, q, b)]) (by rw [← e]; simp)
theorem run_bd {sp : List (Int × Int × Bool)} {lv : List (Int × Int)} {wn : List (Int × Int)} : ∀ (B A : List (Int × Unit)), Asc (A ++ B) → (∀ x ∈ B, 0 ≤ x.1 ∧ x.1 ≤ 31) → runS ⟨sp, lv, A, wn⟩ (B.map fun y => (rcR 8 0 0 y.1 0 0)) = some ⟨sp, lv, A ++ B, wn⟩
  | [], A, _, _ => by rw [List.append_nil]; rfl
  | y :: B, A, h, hb => by
    have hy := hb y (by simp)
    have hlt : ∀ x ∈ A, x.1 < y.1 := fun x hx => (List.pairwise_append.1 h).2.2 x hx y (by simp)
    have h1 : (Sta.mk sp lv A wn).doS (rcR 8 0 0 y.1 0 0) = (0, ⟨sp, lv, ains A y.1 (), wn⟩) := by
      unfold Sta.doS
      rw [if_pos (chk8 hy)]; rfl
    rw [List.map_cons]
    refine (runS_one h1 _).trans ?_
    rw [ains_snoc () hlt]
    have := run_bd (sp := sp) (lv := lv) (wn := wn) B (A ++ [(y.1, ())]) (by simpa using h) fun z hz => hb z (by simp [hz])
    rw [this]; simp
theorem run_wn {sp : List (Int × Int × Bool)} {lv : List (Int × Int)} {bd : List (Int × Unit)} : ∀ (B A : List (Int × Int)), Asc (A ++ B) → (∀ x ∈ B, (0 ≤ x.1 ∧ x.1 ≤ 31) ∧ 0 ≤ x.2 ∧ x.2 ≤ 1073741824) → runS ⟨sp, lv, bd, A⟩ (B.map fun y => (rcR 9 0 0 y.1 0 y.2)) = some ⟨sp, lv, bd, A ++ B⟩
  | [], A, _, _ => by rw [List.append_nil]; rfl
  | y :: B, A, h, hb => by
    have hy := hb y (by simp)
    have hlt : ∀ x ∈ A, x.1 < y.1 := fun x hx => (List.pairwise_append.1 h).2.2 x hx y (by simp)
    have hfn : afind A y.1 = none := afind_none fun x hx e => by have := hlt x hx; omega
    have h1 : (Sta.mk sp lv bd A).doS (rcR 9 0 0 y.1 0 y.2) = (0, ⟨sp, lv, bd, ains A y.1 y.2⟩) := by
      unfold Sta.doS
      rw [if_pos (chk9 hy.1 hy.2)]
      show (0, (⟨sp, lv, bd, ains A y.1 (if y.2 > (afind A y.1).getD 0 then y.2 else (afind A y.1).getD 0)⟩ : Sta)) = _
      rw [hfn]
      show (0, (⟨sp, lv, bd, ains A y.1 (if y.2 > 0 then y.2 else 0)⟩ : Sta)) = _
      rw [show (if y.2 > 0 then y.2 else 0) = y.2 by split <;> omega]
    rw [List.map_cons]
    refine (runS_one h1 _).trans ?_
    rw [ains_snoc y.2 hlt]
    have := run_wn (sp := sp) (lv := lv) (bd := bd) B (A ++ [(y.1, y.2)]) (by simpa using h) fun z hz => hb z (by simp [hz])
    rw [this]; simp
theorem run_dump {st : Sta} (w : SaW st) (h : SaX st) : runS ⟨[], [], [], []⟩ (dumpL st) = some st := by
  have hl : lvIn st.lv st.sp = st.lv := List.filter_eq_self.2 fun x hx => by
    obtain ⟨y, hy⟩ := Option.isSome_iff_exists.1 (w.own x hx)
    have : x.1 / 1024 ∈ st.sp.map Prod.fst := List.mem_map.2 ⟨_, afind_mem hy, rfl⟩
    simpa using this
  have h0 : lvIn st.lv [] = [] := List.filter_eq_nil_iff.2 fun x hx => by simp
  have h1 := run_spaces w h (bd := []) (wn := []) st.sp [] rfl
  rw [h0, hl] at h1
  unfold dumpL
  have h2 := runS_append ⟨[], [], [], []⟩ (List.append (α := RecT) (st.sp.map (dumpS st.lv)).flatten (st.bd.map fun y => (rcR 8 0 0 y.1 0 0))) (st.wn.map fun y => (rcR 9 0 0 y.1 0 y.2))
  have h3 := runS_append ⟨[], [], [], []⟩ (st.sp.map (dumpS st.lv)).flatten (st.bd.map fun y => (rcR 8 0 0 y.1 0 0))
  refine h2.trans ?_
  refine (congrArg (fun o => Option.bind o _) h3).trans ?_
  rw [h1, Option.bind_some, run_bd st.bd [] w.bd w.bds, Option.bind_some]
  have := run_wn (sp := st.sp) (lv := st.lv) (bd := st.bd) st.wn [] w.wn fun x hx => ⟨w.wns x hx, h.wn x.1 x.2 (w.wn.find hx)⟩
  simpa using this
/-- Each of records that are all taken is taken. -/
theorem runS_take {st st' : Sta} {l : List RecT} (h : runS st l = some st') {i : Nat} (hi : i < l.length) : ∃ s, runS st (l.take i) = some s ∧ (s.doS l[i]).1 = 0 ∧ runS st (l.take (i + 1)) = some (s.doS l[i]).2 := by
  have h1 := runS_append st (l.take i) (l.drop i)
  rw [List.take_append_drop, h] at h1
  cases hs : runS st (l.take i) with
  | none => rw [hs] at h1; cases h1
  | some s =>
    rw [hs, Option.bind_some, List.drop_eq_getElem_cons hi, runS] at h1
    by_cases e : (s.doS l[i]).1 = 0
    · refine ⟨s, rfl, e, ?_⟩
      rw [take_snoc hi, runS_append, hs, Option.bind_some, runS, if_pos e]; rfl
    · rw [if_neg e] at h1; cases h1
theorem SaW.opened {st : Sta} (w : SaW st) {id q : Int} (hid : 1 ≤ id ∧ id ≤ 15) (hq : q ≤ 1024) {P : List (Int × Int)} (hP : Asc P) (hpb : ∀ p a, afind P p = some a → 0 ≤ p ∧ p < 1024) : SaW (st.openS id q P).2 := by
  unfold Sta.openS
  split
  · exact w
  · have w1 := w.spi hid hq false
    refine ⟨w1.sp, insAll_asc w.lv, w.bd, w.wn, fun y hy => ?_, w1.ids, w.bds, w.wns⟩
    have hf : afind (insAll id st.lv P) y.1 = some y.2 := (insAll_asc w.lv).find hy
    rw [insAll_find y.1 w.lv hP] at hf
    cases hg : afind P (y.1 - id * 1024) with
    | some u =>
      have := hpb _ _ hg
      show (afind (ains st.sp id (q, false)) (y.1 / 1024)).isSome = true
      rw [afind_ins w.sp, if_pos (by omega)]; rfl
    | none =>
      rw [hg] at hf
      exact w1.own y (afind_mem hf)
theorem SaW.doS {st : Sta} (w : SaW st) (x : RecT) : SaW (st.doS x).2 := by
  unfold Sta.doS
  by_cases hc : chkR x = true
  · rw [if_pos hc]
    have g := chk_good hc
    unfold Sta.applyS
    by_cases k4 : x.1 = 4
    · rw [if_pos k4]
      exact w.opened (g.k4 k4).1 (g.k4 k4).2 Asc.nil fun p a hh => by cases hh
    rw [if_neg k4]
    by_cases k3 : x.1 = 3
    · rw [if_pos k3]
      unfold Sta.moveS
      split
      · exact w
      · split
        · exact w
        · exact w.moved _ _
    rw [if_neg k3]
    by_cases k8 : x.1 = 8
    · rw [if_pos k8]; exact w.bd' (g.k8 k8)
    rw [if_neg k8]
    by_cases k9 : x.1 = 9
    · rw [if_pos k9]; exact w.wn' (g.k9 k9) _
    rw [if_neg k9]
    cases hf : afind st.sp x.2.1 with
    | none => exact w
    | some s =>
      have hids := w.ids _ (afind_mem hf)
      simp only
      by_cases k1 : x.1 = 1
      · rw [if_pos k1]
        by_cases e1 : x.2.2.1 < 0
        · rw [if_pos e1]; exact w
        rw [if_neg e1]
        by_cases e2 : s.1 ≤ x.2.2.1
        · rw [if_pos e2]; exact w
        rw [if_neg e2]
        exact w.key hf (by have := hids.2.2; simp only at this; omega) _
      rw [if_neg k1]
      by_cases k2 : x.1 = 2
      · rw [if_pos k2]
        split
        · exact w.less _
        · exact w
      rw [if_neg k2]
      by_cases k5 : x.1 = 5
      · rw [if_pos k5]; exact w.gone _
      rw [if_neg k5]
      by_cases k6 : x.1 = 6
      · rw [if_pos k6]
        exact w.opened (g.k6 k6) hids.2.2 (pgs_asc w.lv _) fun p a hp => by
          have := pgs_mem (afind_mem hp)
          exact ⟨this.1, this.2.1⟩
      rw [if_neg k6]
      exact w.spi ⟨hids.1, hids.2.1⟩ hids.2.2 true
  · rw [if_neg hc]; exact w
theorem playS_ok (l : List RecT) : ∀ {st : Sta}, SaX st → SaW st → SaX (playS st l) := by
  induction l with
  | nil => exact fun h _ => h
  | cons x l ih => exact fun h w => ih (h.doS w x) (w.doS x)
end Ev
