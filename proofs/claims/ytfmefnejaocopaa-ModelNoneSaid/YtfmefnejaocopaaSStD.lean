/- A space is dropped; a space is made, with another's pages. -/
import Derived.Test.YtfmefnejaocopaaSStC
set_option linter.unusedSimpArgs false
set_option linter.unusedVariables false
namespace Ev
open Go (IntKind)

/-! Plain: many keys away; many keys in. -/
def dropAll (id : Int) (lv : List (Int × Int)) (l : List Int) : List (Int × Int) := l.foldl (fun lv p => adrop lv (id * 1024 + p)) lv
theorem dropAll_snoc (id : Int) (lv : List (Int × Int)) (l : List Int) (k : Int) : dropAll id lv (l ++ [k]) = adrop (dropAll id lv l) (id * 1024 + k) := by unfold dropAll; rw [List.foldl_append]; rfl
theorem dropAll_asc {id : Int} : ∀ {l : List Int} {lv : List (Int × Int)}, Asc lv → Asc (dropAll id lv l)
  | [], _, h => h
  | p :: l, lv, h => dropAll_asc (l := l) (lv := adrop lv (id * 1024 + p)) (h.drop _)
theorem dropAll_find {id : Int} (j : Int) : ∀ {l : List Int} {lv : List (Int × Int)}, Asc lv → afind (dropAll id lv l) j = if j - id * 1024 ∈ l then none else afind lv j
  | [], lv, _ => by rw [if_neg List.not_mem_nil]; rfl
  | p :: l, lv, h => by
    show afind (dropAll id (adrop lv (id * 1024 + p)) l) j = _
    rw [dropAll_find j (h.drop _), afind_drop h]
    by_cases e : j - id * 1024 ∈ l
    · rw [if_pos e, if_pos (List.mem_cons_of_mem _ e)]
    · rw [if_neg e]
      by_cases e2 : j = id * 1024 + p
      · rw [if_pos e2, if_pos (List.mem_cons.2 (.inl (by omega)))]
      · rw [if_neg e2, if_neg (fun hh => (List.mem_cons.1 hh).elim (fun h => e2 (by omega)) e)]
theorem dropAll_perm {id : Int} {l l' : List Int} {lv : List (Int × Int)} (h : Asc lv) (hp : l.Perm l') : dropAll id lv l = dropAll id lv l' :=
  asc_ext (dropAll_asc h) (dropAll_asc h) fun j => by
    rw [dropAll_find j h, dropAll_find j h]
    by_cases e : j - id * 1024 ∈ l
    · rw [if_pos e, if_pos (hp.subset e)]
    · rw [if_neg e, if_neg (fun hh => e (hp.symm.subset hh))]
theorem dropAll_pgs {id : Int} {lv : List (Int × Int)} (h : Asc lv) {l : List Int} {k : Int} (hk : k ∉ l) (hb : ∀ x ∈ l, 0 ≤ x ∧ x < 1024) : afind (pgs (dropAll id lv l) id) k = afind (pgs lv id) k := by
  have hf : afind (dropAll id lv l) (id * 1024 + k) = afind lv (id * 1024 + k) := by rw [dropAll_find _ h, if_neg (by rwa [show id * 1024 + k - id * 1024 = k by omega])]
  rw [pgs_find (dropAll_asc h), pgs_find h, hf]
theorem dropAll_other {id id' : Int} {lv : List (Int × Int)} (h : Asc lv) {l : List Int} (hb : ∀ x ∈ l, 0 ≤ x ∧ x < 1024) (hne : id' ≠ id) : pgs (dropAll id lv l) id' = pgs lv id' :=
  asc_ext (pgs_asc (dropAll_asc h) _) (pgs_asc h _) fun k => by
    rw [pgs_find (dropAll_asc h), pgs_find h]
    by_cases e : 0 ≤ k ∧ k < 1024
    · rw [if_pos e, if_pos e, dropAll_find _ h, if_neg fun hh => by have := hb _ hh; omega]
    · rw [if_neg e, if_neg e]
/-- Without a space. -/
def lvOff (lv : List (Int × Int)) (id : Int) : List (Int × Int) := lv.filter fun x => !decide (x.1 / 1024 = id)
theorem lvOff_asc {lv : List (Int × Int)} (h : Asc lv) (id : Int) : Asc (lvOff lv id) := h.sub List.filter_sublist
theorem dropAll_keys {id : Int} {lv : List (Int × Int)} (h : Asc lv) : dropAll id lv ((pgs lv id).map Prod.fst) = lvOff lv id :=
  asc_ext (dropAll_asc h) (lvOff_asc h id) fun j => by
    rw [dropAll_find j h]
    have hm : j - id * 1024 ∈ (pgs lv id).map Prod.fst ↔ j / 1024 = id ∧ (afind lv j).isSome = true := by
      rw [← afind_isSome, pgs_find h]
      by_cases e : 0 ≤ j - id * 1024 ∧ j - id * 1024 < 1024
      · rw [if_pos e, show id * 1024 + (j - id * 1024) = j by omega]
        exact ⟨fun hh => ⟨by omega, hh⟩, fun hh => hh.2⟩
      · rw [if_neg e]
        exact ⟨fun hh => (by cases hh), fun hh => absurd hh.1 (by omega)⟩
    cases hj : afind lv j with
    | none =>
      rw [hj] at hm
      rw [if_neg (fun hh => by have := (hm.1 hh).2; cases this)]
      refine (afind_none fun x hx e => ?_).symm
      have := h.find (List.mem_filter.1 hx).1
      rw [e, hj] at this; cases this
    | some v =>
      rw [hj] at hm
      by_cases e : j / 1024 = id
      · rw [if_pos (hm.2 ⟨e, rfl⟩)]
        refine (afind_none fun x hx e2 => ?_).symm
        have := (List.mem_filter.1 hx).2
        rw [e2] at this
        simp [e] at this
      · rw [if_neg (fun hh => e (hm.1 hh).1)]
        exact ((lvOff_asc h id).find (List.mem_filter.2 ⟨afind_mem hj, by simp [e]⟩)).symm
theorem rf_length_less {lv : List (Int × Int)} {k v : Int} (hv : afind lv k = some v) : (rfOf (adrop lv k)).length + (if (cnt (adrop lv k) v : Int) = 0 then 1 else 0) = (rfOf lv).length := by
  have hs : (afind (rfOf lv) v).isSome = true := by rw [(rfOf_ok lv).find, if_neg (by have := cnt_pos hv; omega)]; rfl
  rw [← lessT_eq hv]
  unfold lessT
  have h1 := ains_length (l := rfOf lv) (k := v) (v := (cnt (adrop lv k) v : Int)) (rfOf_ok lv).asc
  rw [if_pos hs] at h1
  by_cases h0 : (cnt (adrop lv k) v : Int) = 0
  · rw [if_pos h0, if_pos h0]
    have h2 := adrop_length (l := ains (rfOf lv) v (cnt (adrop lv k) v : Int)) (k := v)
    rw [afind_ins (rfOf_ok lv).asc, if_pos rfl] at h2
    simp only [Option.isSome_some, if_true] at h2
    omega
  · rw [if_neg h0, if_neg h0]; omega
theorem rf_length_le (id : Int) : ∀ {l : List Int} {lv : List (Int × Int)}, (rfOf (dropAll id lv l)).length ≤ (rfOf lv).length
  | [], _ => Nat.le_refl _
  | p :: l, lv => by
    show (rfOf (dropAll id (adrop lv (id * 1024 + p)) l)).length ≤ _
    refine Nat.le_trans (rf_length_le id) ?_
    cases hv : afind lv (id * 1024 + p) with
    | none => rw [adrop_none hv]; exact Nat.le_refl _
    | some v => have := rf_length_less hv; omega
theorem set_same {H : Heap} {b : Nat} {x : Blk} (h : H[b]? = some x) : H.set b x = H := by
  apply List.ext_getElem?
  intro j
  by_cases e : b = j
  · subst e; rw [set_get (get_lt h), h]
  · rw [set_get' e]
theorem keys_nodup {α : Type} {l : List (Int × α)} (h : Asc l) : (l.map Prod.fst).Nodup := by
  unfold Asc at h
  exact (List.pairwise_map.2 (h.imp fun hlt => by omega))
section
variable {H H0 H1 : Heap} {a : SaA} {st : Sta}
theorem drop_loop (h : StAt H0 a st) {id : Int} {x : Int × Bool} (hx : afind st.sp id = some x) {q : Int} {s : Bool} {cl : Nat} {r44 : (Option Nat × Unit) × Heap} (hr44 : r44.1.1 = some cl)
    (hb : H0[H1.length]? = some (.cells [.int .i64 q, .bool s, .mp (some (a.pg id))] .exact)) (hcl : H0[cl]? = some (.mp (encA inW (pgs st.lv id)) 0)) (hc1 : cl ≠ a.rf) (hc2 : cl ≠ a.pg id) :
    ∃ G, eachW (state_State_apply.s1 (some (a.c, 0)) H1 r44) (some cl) () H0 = some ((), G) ∧ StAt G a ⟨st.sp, lvOff st.lv id, st.bd, st.wn⟩ ∧ Keep (fun b => b = a.rf ∨ b = a.pg id) H0 G := by
  obtain ⟨dp, hP⟩ := h.pg id x hx
  obtain ⟨dr, hR⟩ := h.rf
  have hne : a.rf ≠ a.pg id := (h.pn id x hx).2.1.symm
  have hl1 := get_lt hR
  have hl2 := get_lt hP
  have hcl' := get_lt hcl
  have hbl := get_lt hb
  have hcc := get_lt h.c
  have hcr : a.c ≠ a.rf := fun e => by have := h.c; rw [e, hR] at this; cases this
  have hcp : a.c ≠ a.pg id := fun e => by have := h.c; rw [e, hP] at this; cases this
  have hbr : H1.length ≠ a.rf := fun e => by rw [e, hR] at hb; cases hb
  have hbp : H1.length ≠ a.pg id := fun e => by rw [e, hP] at hb; cases hb
  have hpb : ∀ y ∈ (pgs st.lv id).map Prod.fst, 0 ≤ y ∧ y < 1024 := fun y hy => by
    obtain ⟨z, hz, rfl⟩ := List.mem_map.1 hy
    have := pgs_mem hz
    exact ⟨this.1, this.2.1⟩
  have hlen : (pgs st.lv id).length ≤ 1024 := h.w.pgl id
  let F : List Int → Heap := fun l => ((H0.set a.rf (.mp (encA inW (rfOf (dropAll id st.lv l))) (dr + ((rfOf st.lv).length - (rfOf (dropAll id st.lv l)).length)))).set (a.pg id) (.mp (encA inW (pgs (dropAll id st.lv l) id)) (dp + l.length))) ++ List.replicate l.length (.cells [.int .i64 q, .bool s, .mp (some (a.pg id))] .exact)
  have hF : ∀ l, F l = ((H0.set a.rf (.mp (encA inW (rfOf (dropAll id st.lv l))) (dr + ((rfOf st.lv).length - (rfOf (dropAll id st.lv l)).length)))).set (a.pg id) (.mp (encA inW (pgs (dropAll id st.lv l) id)) (dp + l.length))) ++ List.replicate l.length (.cells [.int .i64 q, .bool s, .mp (some (a.pg id))] .exact) := fun _ => rfl
  have get : ∀ l b, b < H0.length → b ≠ a.rf → b ≠ a.pg id → (F l)[b]? = H0[b]? := fun l b hb h1 h2 => by
    rw [hF, List.getElem?_append_left (by simpa using hb), set_get' (Ne.symm h2), set_get' (Ne.symm h1)]
  have getr : ∀ l, (F l)[a.rf]? = some (.mp (encA inW (rfOf (dropAll id st.lv l))) (dr + ((rfOf st.lv).length - (rfOf (dropAll id st.lv l)).length))) := fun l => by
    rw [hF, List.getElem?_append_left (by simpa using hl1), set_get' hne.symm, set_get hl1]
  have getp : ∀ l, (F l)[a.pg id]? = some (.mp (encA inW (pgs (dropAll id st.lv l) id)) (dp + l.length)) := fun l => by
    rw [hF, List.getElem?_append_left (by simpa using hl2), set_get (by simpa using hl2)]
  have hF0 : F [] = H0 := by
    rw [hF]
    show ((H0.set a.rf (.mp (encA inW (rfOf st.lv)) (dr + ((rfOf st.lv).length - (rfOf st.lv).length)))).set (a.pg id) (.mp (encA inW (pgs st.lv id)) (dp + 0))) ++ [] = H0
    rw [Nat.sub_self, Nat.add_zero, Nat.add_zero, set_same hR, set_same hP, List.append_nil]
  have hcm : MpA H0 cl inW (pgs st.lv id) := ⟨0, hcl⟩
  obtain ⟨dc, hhd⟩ := hcm.head
  have hperm : ∀ l : List Int, l.Perm ((pgs st.lv id).map Prod.fst) → F l = F ((pgs st.lv id).map Prod.fst) := fun l hl => by
    rw [hF, hF, dropAll_perm h.w.lv hl, hl.length_eq]
  refine ⟨F ((pgs st.lv id).map Prod.fst), ?_, ?_, ?_⟩
  · refine eachW_of (ks := (pgs st.lv id).map Prod.fst) hcm.keys hhd (keys_nodup (pgs_asc h.w.lv id)) (fun _ => ()) F rfl hF0 (fun l k hl hn hk hkl => ?_) (fun l hl => ⟨rfl, by rw [hperm l hl]; exact Alike.refl _ _⟩)
    have hkb := hpb k hk
    have hlb : ∀ y ∈ l, 0 ≤ y ∧ y < 1024 := fun y hy => hpb y (hl y hy)
    obtain ⟨v, hv⟩ := Option.isSome_iff_exists.1 (afind_isSome.2 hk)
    have hv1 : afind (pgs (dropAll id st.lv l) id) k = some v := by rw [dropAll_pgs h.w.lv hkl hlb]; exact hv
    have hasl := dropAll_asc (id := id) (l := l) h.w.lv
    have hv2 : afind (dropAll id st.lv l) (id * 1024 + k) = some v := by rw [pgs_find hasl, if_pos hkb] at hv1; exact hv1
    have hcnt := cnt_drop hv2 v
    rw [if_pos rfl, ← dropAll_snoc] at hcnt
    have hmany : cnt (dropAll id st.lv l) v ≤ 15360 := Nat.le_trans (cnt_le _ _) (asc_bound (a := 1024) hasl fun y hy => by
      have := dropAll_find (id := id) (l := l) y.1 h.w.lv
      rw [hasl.find hy] at this
      split at this
      · cases this
      · exact h.w.lvs _ (afind_mem this.symm))
    have hrl := rf_length_less hv2
    rw [← dropAll_snoc] at hrl
    have hrle := rf_length_le id (l := l) (lv := st.lv)
    have hm1 : mat (F l) (.one (.int .i64)) (some cl) k = some v := by
      have hcF : MpA (F l) cl inW (pgs st.lv id) := ⟨0, by rw [get l cl hcl' hc1 hc2]; exact hcl⟩
      exact hcF.mat (.one (.int .i64)) k (by rw [hv]; rfl)
    have hm2 : rd (F l) (.agg [.int .i64, .bool, .mp]) H1.length 0 = (some (q, s, some (a.pg id), ()) : Option (Int × Bool × Option Nat × Unit)) := rd_agg_of (by rw [get l _ hbl hbr hbp]; exact hb) (by simp) rfl
    have hm3 := point_some (x3 := -1) (q := q) (s := s) (by rw [get l _ hcc hcr hcp]; exact h.c) (getr l) (getp l) hne (rfOf_ok _).asc (n := (cnt (dropAll id st.lv (l ++ [k])) v : Int)) hv1 (by rw [(rfOf_ok _).get]; omega) ⟨by omega, by omega⟩
    rw [pointT_neg (by decide)] at hm3
    refine ⟨?_, ?_⟩
    · unfold state_State_apply.s1
      simp only [hr44, hm1, Option.bind_some]
      refine (bind_to hm2).trans ?_
      refine (bind_to hm3).trans ?_
      refine congrArg (fun G => some ((), G)) ?_
      have e1 : dr + ((rfOf st.lv).length - (rfOf (dropAll id st.lv l)).length) + (if (cnt (adrop (dropAll id st.lv l) (id * 1024 + k)) v : Int) = 0 then 1 else 0) = dr + ((rfOf st.lv).length - (rfOf (adrop (dropAll id st.lv l) (id * 1024 + k))).length) := by
        rw [dropAll_snoc] at hrl
        omega
      have e2 : (l ++ [k]).length = l.length + 1 := by simp
      show ((F l ++ [_]).set a.rf _).set (a.pg id) _ = F (l ++ [k])
      rw [dropAll_snoc, lessT_eq hv2, hF, hF, List.append_assoc, List.set_append_left _ _ (by simpa using hl1), List.set_append_left _ _ (by simpa using hl2), dropAll_snoc, pgs_drop hasl _ _ hkb, if_pos rfl,
        List.set_comm _ _ hne.symm, List.set_set, List.set_set, e1, e2, List.replicate_succ', ← Nat.add_assoc]
    · rw [← hhd]
      have : (F (l ++ [k])).mpAt cl = H0.mpAt cl := by
        unfold Heap.mpAt; rw [get _ cl hcl' hc1 hc2]
      simp only [mhead, Option.bind_some, this]
  · have w' : SaW ⟨st.sp, lvOff st.lv id, st.bd, st.wn⟩ := ⟨h.w.sp, lvOff_asc h.w.lv id, h.w.bd, h.w.wn, fun y hy => h.w.own y (List.mem_filter.1 hy).1, h.w.ids, h.w.bds, h.w.wns⟩
    have hk : Keep (fun b => b = a.rf ∨ b = a.pg id) H0 (F ((pgs st.lv id).map Prod.fst)) := ⟨by rw [hF]; simp, fun b hb hf => get _ b hb (fun e => hf (.inl e)) (fun e => hf (.inr e))⟩
    refine h.lvs w' hk (fun b hb => hb.imp_right fun e => ⟨id, x, hx, e⟩) ⟨_, by rw [← dropAll_keys h.w.lv]; exact getr _⟩ fun id' x' hx' => ?_
    rw [← dropAll_keys h.w.lv]
    by_cases e : id' = id
    · subst e; exact ⟨_, getp _⟩
    · rw [dropAll_other h.w.lv hpb e]
      exact (h.pg id' x' hx').keep hk fun hb => hb.elim (fun e2 => (h.pn id' x' hx').2.1 e2) fun e2 => e (h.pi _ _ _ _ hx' hx e2)
  · exact ⟨by rw [hF]; simp, fun b hb hf => get _ b hb (fun e => hf (.inl e)) (fun e => hf (.inr e))⟩
end
end Ev
