/- Words: what is made right, and what is made of others (in plain Lean). -/
import Derived.Test.YtboamjjdpmaikaaSRsH
namespace Ev

def lsum (F : Nat → UInt8) : List Nat → UInt8
  | [] => 0
  | m :: r => F m ^^^ lsum F r
theorem lsum_congr {F G : Nat → UInt8} : ∀ {l : List Nat}, (∀ m ∈ l, F m = G m) → lsum F l = lsum G l
  | [], _ => rfl
  | m :: r, h => by rw [lsum, lsum, h m (List.mem_cons_self ..), lsum_congr fun k hk => h k (List.mem_cons_of_mem _ hk)]
theorem sm_list {L : Nat} : ∀ (W : List Nat) (F : Nat → UInt8), W.Nodup → (∀ m ∈ W, m < L) → (∀ m, m < L → m ∉ W → F m = 0) → sm L F = lsum F W
  | [], F, _, _, h => by
    rw [lsum, sm_congr (g := fun _ => 0) fun i hi => h i hi (List.not_mem_nil), sm_none]
  | m :: r, F, hn, hl, h => by
    rw [List.nodup_cons] at hn
    have hm := hl m (List.mem_cons_self ..)
    have h1 : sm L F = sm L (fun i => if i = m then F m else 0) ^^^ sm L (fun i => if i = m then 0 else F i) := by
      rw [← sm_xor]
      refine sm_congr fun i _ => ?_
      by_cases hi : i = m
      · rw [if_pos hi, if_pos hi, hi, UInt8.xor_zero]
      · rw [if_neg hi, if_neg hi, UInt8.zero_xor]
    have h2 : sm L (fun i => if i = m then F m else 0) = F m := by
      rw [sm_one (k := m) hm fun i _ hne => if_neg hne, if_pos rfl]
    rw [h1, h2, sm_list r (fun i => if i = m then 0 else F i) hn.2 (fun k hk => hl k (List.mem_cons_of_mem _ hk)) fun k hk hkr => by
      by_cases hkm : k = m
      · exact if_pos hkm
      · rw [if_neg hkm]
        exact h k hk fun hc => by
          rcases List.mem_cons.1 hc with hc | hc
          · exact hkm hc
          · exact hkr hc, lsum]
    congr 1
    exact lsum_congr fun k hk => if_neg (fun hkm : k = m => hn.1 (by rw [← hkm]; exact hk))
def gX (l : List Nat) : List UInt8 := l.map gp
theorem gX_nodup : ∀ {l : List Nat}, l.Nodup → (∀ m ∈ l, m < 255) → (gX l).Nodup
  | [], _, _ => List.nodup_nil
  | m :: r, h, hl => by
    rw [List.nodup_cons] at h
    show (gp m :: gX r).Nodup
    rw [List.nodup_cons]
    refine ⟨fun hc => ?_, gX_nodup h.2 fun k hk => hl k (List.mem_cons_of_mem _ hk)⟩
    obtain ⟨k, h1, h2⟩ := List.mem_map.1 hc
    have := gp_inj (hl k (List.mem_cons_of_mem _ h1)) (hl m (List.mem_cons_self ..)) h2
    exact h.1 (this ▸ h1)
theorem gX_mem {l : List Nat} (hl : ∀ m ∈ l, m < 255) {k : Nat} (hk : k < 255) : gp k ∈ gX l ↔ k ∈ l := by
  constructor
  · intro h
    obtain ⟨j, h1, h2⟩ := List.mem_map.1 h
    exact gp_inj (hl j h1) hk h2 ▸ h1
  · exact fun h => List.mem_map.2 ⟨k, h, rfl⟩
theorem gX_ne {l : List Nat} : ∀ X ∈ gX l, X ≠ 0 := fun X hX => by
  obtain ⟨j, _, rfl⟩ := List.mem_map.1 hX
  exact gp_ne j
theorem gp_ginv {n : Nat} (h : n ≤ 255) : gp (255 - n) = ginv (gp n) := by
  refine gm_cancel (gp_ne n) ?_
  rw [gm_ginv (gp_ne n), gp_add, show n + (255 - n) = 255 by omega, gp_255]
theorem plF_PL : ∀ (K : List Int) (p : Bytes), co (K.foldl (fun p e => trim (pmul p [1, gp e.toNat])) p) = fmul (co p) (co (PL (gX (K.map Int.toNat))))
  | [], p => by
    show co p = fmul (co p) (co [1])
    rw [one_co, fmul_comm, one_fmul]
  | e :: K, p => by
    rw [List.foldl_cons, plF_PL K, co_trimf, co_mulf, fmul_assoc, List.map_cons]
    show _ = fmul (co p) (co (PL (gp e.toNat :: gX (K.map Int.toNat))))
    rw [co_PL]
theorem plF_co (K : List Int) : co (plF K) = co (PL (gX (K.map Int.toNat))) := by
  unfold plF
  rw [plF_PL, one_co, one_fmul]
open Classical in
noncomputable def lg (X : UInt8) : Nat := if h : X ≠ 0 then Classical.choose (gp_all h) else 0
theorem lg_gp {m : Nat} (h : m < 255) : lg (gp m) = m := by
  unfold lg
  rw [dif_pos (gp_ne m)]
  have hs := Classical.choose_spec (gp_all (gp_ne m))
  exact (gp_inj h hs.1 hs.2).symm
theorem SG_list (e : UInt8 → UInt8) (i : Nat) : ∀ l : List Nat, SG e (gX l) i = lsum (fun m => gm (e (gp m)) (gpow (gp m) i)) l
  | [] => rfl
  | m :: r => by
    rw [lsum, ← SG_list e i r]
    show fmul (mono (e (gp m)) 0) (geo (gp m)) i ^^^ SG e (gX r) i = _
    rw [mono0]; rfl

/-! Making right, step by step. -/
theorem fixL_eq (size slope : Bytes) : ∀ (R : List Nat) (out : Bytes) (many : Int), R.Nodup → (∀ m ∈ R, m < out.length) → (∀ m ∈ R, ev slope (gp (255 - m)) ≠ 0) →
    ∃ o, fixL size slope (R.map Int.ofNat) out many = some (o, many + ((R.filter fun m => efix size slope m != 0).length : Nat)) ∧ o.length = out.length ∧ ∀ k, k < out.length → co o k = co out k ^^^ (if out.length - 1 - k ∈ R then efix size slope (out.length - 1 - k) else 0)
  | [], out, many, _, _, _ => ⟨out, by simp [fixL], rfl, fun k _ => by rw [if_neg (List.not_mem_nil), UInt8.xor_zero]⟩
  | m :: r, out, many, hn, hl, hs => by
    rw [List.nodup_cons] at hn
    have hm := hl m (List.mem_cons_self ..)
    obtain ⟨o, o1, o2, o3⟩ := fixL_eq size slope r (out.set (out.length - 1 - m) (co out (out.length - 1 - m) ^^^ efix size slope m)) (if efix size slope m = 0 then many else many + 1) hn.2 (fun k hk => by rw [List.length_set]; exact hl k (List.mem_cons_of_mem _ hk)) fun k hk => hs k (List.mem_cons_of_mem _ hk)
    rw [List.length_set] at o2 o3
    refine ⟨o, ?_, o2, fun k hk => ?_⟩
    · rw [List.map_cons, fixL]
      show (if ev slope (gp (255 - m)) = 0 then _ else _) = _
      rw [if_neg (hs m (List.mem_cons_self ..))]
      show fixL size slope (r.map Int.ofNat) (out.set (out.length - 1 - m) (co out (out.length - 1 - m) ^^^ efix size slope m)) (if efix size slope m = 0 then many else many + 1) = _
      rw [o1]
      congr 2
      by_cases h0 : efix size slope m = 0
      · rw [if_pos h0, List.filter_cons_of_neg (by simp [h0])]
      · rw [if_neg h0, List.filter_cons_of_pos (by simp [h0]), List.length_cons]; omega
    · rw [o3 k hk, co_set]
      by_cases hk1 : k = out.length - 1 - m
      · have h2 : out.length - 1 - k = m := by omega
        rw [if_pos ⟨hk1, by omega⟩, h2, if_neg hn.1, UInt8.xor_zero, if_pos (List.mem_cons_self ..), hk1]
      · have h2 : out.length - 1 - k ≠ m := by omega
        rw [if_neg (fun h => hk1 h.1)]
        congr 1
        by_cases hr : out.length - 1 - k ∈ r
        · rw [if_pos hr, if_pos (List.mem_cons_of_mem _ hr)]
        · rw [if_neg hr, if_neg fun hc => by
            rcases List.mem_cons.1 hc with hc | hc
            · exact h2 hc
            · exact hr hc]
theorem fixL_some (size slope : Bytes) : ∀ (R : List Nat) (out : Bytes) (many : Int) (x : Bytes × Int), fixL size slope (R.map Int.ofNat) out many = some x → ∀ m ∈ R, ev slope (gp (255 - m)) ≠ 0
  | [], _, _, _, _, m, hm => by cases hm
  | k :: r, out, many, x, h, m, hm => by
    rw [List.map_cons, fixL] at h
    have h : (if ev slope (gp (255 - k)) = 0 then none else fixL size slope (r.map Int.ofNat) (out.set (out.length - 1 - k) (co out (out.length - 1 - k) ^^^ efix size slope k)) (if efix size slope k = 0 then many else many + 1)) = some x := h
    by_cases h0 : ev slope (gp (255 - k)) = 0
    · rw [if_pos h0] at h; cases h
    · rw [if_neg h0] at h
      rcases List.mem_cons.1 hm with rfl | hm
      · exact h0
      · exact fixL_some size slope r _ _ x h m hm
/-- The places at which it is nought, as natural numbers. -/
def roN (p : Bytes) (long : Nat) : List Nat := (List.range long).filter fun n => ev p (gp (255 - n)) == 0
theorem roF_N (p : Bytes) (long : Nat) : roF p long = (roN p long).map Int.ofNat := rfl
theorem roN_mem {p : Bytes} {n k : Nat} : k ∈ roN p n ↔ k < n ∧ ev p (gp (255 - k)) = 0 := by
  unfold roN
  rw [List.mem_filter, List.mem_range]
  simp
theorem roN_nodup (p : Bytes) (n : Nat) : (roN p n).Nodup := List.Pairwise.filter _ List.nodup_range
/-- At how many places two words are not the same. -/
def dfc (s w : Bytes) : Nat := ((List.range s.length).filter fun k => co s k != co w k).length
theorem len_same {l l' : List Nat} (h1 : l.Nodup) (h2 : l'.Nodup) (h : ∀ k, k ∈ l ↔ k ∈ l') : l.length = l'.length := ((List.perm_ext_iff_of_nodup h1 h2).2 fun {k} => h k).length_eq
theorem nodup_map {f : Nat → Nat} : ∀ {l : List Nat}, l.Nodup → (∀ a ∈ l, ∀ b ∈ l, f a = f b → a = b) → (l.map f).Nodup
  | [], _, _ => List.nodup_nil
  | m :: r, h, hi => by
    rw [List.nodup_cons] at h
    rw [List.map_cons, List.nodup_cons]
    refine ⟨fun hc => ?_, nodup_map h.2 fun a ha b hb => hi a (List.mem_cons_of_mem _ ha) b (List.mem_cons_of_mem _ hb)⟩
    obtain ⟨k, h1, h2⟩ := List.mem_map.1 hc
    exact h.1 (hi k (List.mem_cons_of_mem _ h1) m (List.mem_cons_self ..) h2 ▸ h1)
theorem fix_count {s o : Bytes} {R : List Nat} {F : Nat → UInt8} (hn : R.Nodup) (hl : ∀ m ∈ R, m < s.length) (h : ∀ k, k < s.length → co o k = co s k ^^^ (if s.length - 1 - k ∈ R then F (s.length - 1 - k) else 0)) (q : Nat → Bool) : (R.filter fun m => F m != 0 && q m).length = ((List.range s.length).filter fun k => co s k != co o k && q (s.length - 1 - k)).length := by
  have h1 : ((R.filter fun m => F m != 0 && q m).map fun m => s.length - 1 - m).Nodup := nodup_map (List.Pairwise.filter _ hn) fun a ha b hb hab => by
    have := hl a (List.mem_filter.1 ha).1
    have := hl b (List.mem_filter.1 hb).1
    omega
  have h2 := len_same (l' := (List.range s.length).filter fun k => co s k != co o k && q (s.length - 1 - k)) h1 (List.Pairwise.filter _ List.nodup_range) fun k => by
    rw [List.mem_map, List.mem_filter, List.mem_range, Bool.and_eq_true, bne_iff_ne]
    constructor
    · rintro ⟨m, hm, rfl⟩
      obtain ⟨hm1, hm2⟩ := List.mem_filter.1 hm
      rw [Bool.and_eq_true, bne_iff_ne] at hm2
      have hml := hl m hm1
      have hk : s.length - 1 - (s.length - 1 - m) = m := by omega
      have := h (s.length - 1 - m) (by omega)
      rw [hk, if_pos hm1] at this
      refine ⟨by omega, fun he => hm2.1 ?_, by rw [hk]; exact hm2.2⟩
      rw [← he] at this
      have h3 := congrArg (fun x => co s (s.length - 1 - m) ^^^ x) this
      simp only [UInt8.xor_self, ← UInt8.xor_assoc, UInt8.zero_xor] at h3
      exact h3.symm
    · rintro ⟨hk, hne, hq⟩
      have hko := h k hk
      by_cases hR : s.length - 1 - k ∈ R
      · rw [if_pos hR] at hko
        refine ⟨s.length - 1 - k, List.mem_filter.2 ⟨hR, ?_⟩, by omega⟩
        rw [Bool.and_eq_true, bne_iff_ne]
        exact ⟨fun h0 => hne (by rw [hko, h0, UInt8.xor_zero]), hq⟩
      · rw [if_neg hR, UInt8.xor_zero] at hko
        exact absurd hko.symm hne
  rw [← h2, List.length_map]
theorem slope_co (p : Bytes) : co (trim (pslope p)) = fD (co p) := by
  funext i
  rw [co_trim]
  unfold pslope fD
  rw [co_pl]
  split
  · rfl
  · rw [co_ge (by omega)]
    split <;> rfl
theorem syn_cg (s : Bytes) (n : Nat) (K : List Int) : Cg n (co (syn s n K)) (fmul (co (pl n (sg s))) (co (plF K))) := fun i hi => by
  unfold syn
  rw [co_trim]
  have : co ((trim (pmul (pl n (sg s)) (plF K))).take n) i = co (trim (pmul (pl n (sg s)) (plF K))) i := by
    unfold co
    rw [List.getD_eq_getElem?_getD, List.getElem?_take_of_lt hi, List.getD_eq_getElem?_getD]
  rw [this, co_trim, co_mulf]
theorem ev_sc {p q : Bytes} {c : UInt8} (h : ∀ i, co p i = gm c (co q i)) (x : UInt8) : ev p x = gm c (ev q x) := by
  rw [← ev_psc]
  exact ev_co (fun i => by rw [h, co_psc]) x
theorem toN_map : ∀ (l : List Nat), (l.map Int.ofNat).map Int.toNat = l
  | [] => rfl
  | m :: r => by rw [List.map_cons, List.map_cons, toN_map r]; rfl
theorem sg_diff {s c : Bytes} (hl : c.length = s.length) {i : Nat} (hc : sg c i = 0) : sg s i = sm s.length fun m => gm (co (rv s) m ^^^ co (rv c) m) (gpow (gp m) i) := by
  have h1 : sg s i = sg s i ^^^ sg c i := by rw [hc, UInt8.xor_zero]
  rw [h1]
  unfold sg
  rw [ev_sm (p := rv s) (n := s.length) (fun j hj => co_ge (by rw [rv_len]; exact hj)), ev_sm (p := rv c) (n := s.length) (fun j hj => co_ge (by rw [rv_len, hl]; exact hj)), ← sm_xor]
  refine sm_congr fun m _ => ?_
  rw [← gm_xor, gpow_gp, gpow_gp, Nat.mul_comm]
open Classical in
/-- A word of which not too many bytes are others is made right. -/
theorem decC_ok {s c : Bytes} {n : Nat} {K : List Int} (hn : 1 ≤ n) (hs : s.length ≤ 255) (hl : c.length = s.length) (hc : rtB c n = true) (hr : rtB s n = false) (hK : (K.map Int.toNat).Nodup) (hKe : ∀ e ∈ K, 0 ≤ e ∧ e < (s.length : Int)) (hd : 2 * ((List.range s.length).filter fun m => decide (co (rv s) m ≠ co (rv c) m ∧ m ∉ K.map Int.toNat)).length + K.length ≤ n) : decC s n K = (c, (dfc s c : Int), 0) := by
  have hc' : ∀ i, i < n → sg c i = 0 := of_decide_eq_true hc
  generalize hEs : ((List.range s.length).filter fun m => decide (co (rv s) m ≠ co (rv c) m ∧ m ∉ K.map Int.toNat)) = Es at hd
  generalize hKn : K.map Int.toNat = Kn at hEs hK
  have hKl : Kn.length = K.length := by rw [← hKn, List.length_map]
  have hKm : ∀ m ∈ Kn, m < s.length := fun m hm => by
    rw [← hKn] at hm
    obtain ⟨e, h1, rfl⟩ := List.mem_map.1 hm
    have := hKe e h1
    omega
  have hEm : ∀ m, m ∈ Es ↔ m < s.length ∧ co (rv s) m ≠ co (rv c) m ∧ m ∉ Kn := fun m => by
    rw [← hEs, List.mem_filter, List.mem_range, decide_eq_true_iff]
  have hEn : Es.Nodup := by rw [← hEs]; exact List.Pairwise.filter _ List.nodup_range
  -- all places
  obtain ⟨W, hW⟩ : ∃ W, W = Es ++ Kn := ⟨_, rfl⟩
  have hWn : W.Nodup := by
    rw [hW, List.nodup_append]
    exact ⟨hEn, hK, fun a ha b hb hab => ((hEm a).1 ha).2.2 (hab ▸ hb)⟩
  have hWm : ∀ m ∈ W, m < s.length := fun m hm => by
    rw [hW] at hm
    rcases List.mem_append.1 hm with hm | hm
    · exact ((hEm m).1 hm).1
    · exact hKm m hm
  have hWo : ∀ m, m < s.length → m ∉ W → co (rv s) m = co (rv c) m := fun m hm hmW => by
    rw [hW, List.mem_append] at hmW
    by_cases he : co (rv s) m = co (rv c) m
    · exact he
    · exact absurd ((hEm m).2 ⟨hm, he, fun h => hmW (.inr h)⟩) fun h => hmW (.inl h)
  have hW255 : ∀ m ∈ W, m < 255 := fun m hm => by have := hWm m hm; omega
  let e : UInt8 → UInt8 := fun X => co (rv s) (lg X) ^^^ co (rv c) (lg X)
  have he : ∀ m, m < 255 → e (gp m) = co (rv s) m ^^^ co (rv c) m := fun m hm => by
    show co (rv s) (lg (gp m)) ^^^ _ = _
    rw [lg_gp hm]
  -- the signs
  have hS : Cg n (co (pl n (sg s))) (SG e (gX W)) := fun i hi => by
    rw [co_pl, if_pos hi, SG_list, sg_diff hl (hc' i hi), sm_list W _ hWn hWm fun m hm hmW => by rw [hWo m hm hmW, UInt8.xor_self, zero_gm]]
    exact lsum_congr fun m hm => by rw [he m (hW255 m hm)]
  have hP : co (PL (gX W)) = fmul (co (PL (gX Es))) (co (plF K)) := by
    rw [plF_co, hKn, hW]
    unfold gX
    rw [List.map_append, PL_append]
  have hkey : Cg n (fmul (co (PL (gX Es))) (co (syn s n K))) (co (OM e (gX W))) := by
    rw [← PL_SG e (gX W), hP, fmul_assoc, fmul_comm (co (plF K))]
    exact ((syn_cg s n K).trans (hS.mul _)).mul2 _
  have hWl : (gX W).length = Es.length + K.length := by
    unfold gX
    rw [List.length_map, hW, List.length_append, hKl]
  have hEl : (gX Es).length = Es.length := by unfold gX; rw [List.length_map]
  have hslW : ∀ X ∈ gX W, _ := fun X hX => OM_slope e (gX W) (gX_nodup hWn hW255) gX_ne X hX (trim (pslope (PL (gX W)))) (slope_co _)
  obtain ⟨c0, hc0, hb, hv⟩ := solve_one (T := syn s n K) (Om := OM e (gX W)) (Xs := gX Es) (l := K.length) hn (syn_len s n K) (gX_nodup hEn fun m hm => by have := ((hEm m).1 hm).1; omega) (fun X hX => by
      refine ⟨gX_ne X hX, fun h0 => ?_⟩
      obtain ⟨m, hm, rfl⟩ := List.mem_map.1 hX
      have hmE := (hEm m).1 hm
      have hmW : gp m ∈ gX W := List.mem_map.2 ⟨m, by rw [hW]; exact List.mem_append_left _ hm, rfl⟩
      obtain ⟨h1, h2⟩ := hslW _ hmW
      rw [h0, gm_zero, he m (by omega)] at h2
      rcases gm_eq_zero.1 h2.symm with h3 | h3
      · exact hmE.2.1 (xor_eq_zero.1 h3)
      · exact h1 h3) (by rw [hEl, ← hWl]; exact OM_bd e _) (by rw [hEl]; exact hd) hkey
  generalize hsol : solF (syn s n K) n K.length = q at *
  obtain ⟨b, v⟩ := q
  have hall : ∀ i, co (allF s n K) i = gm c0 (co (PL (gX W)) i) := fun i => by
    unfold allF
    rw [hsol, co_trim, co_mulf, hP]
    show fmul (co v) _ i = _
    have : co v = fmul (mono c0 0) (co (PL (gX Es))) := by funext j; rw [mono0]; exact hv j
    rw [this, fmul_assoc, mono0]
  have hT : tl (allF s n K) = W.length + 1 := tl_eq (fun i hi => by
      rw [hall, PL_bd (gX W) i (by unfold gX; rw [List.length_map]; exact hi), gm_zero]) fun _ => by
      rw [hall, Nat.add_sub_cancel]
      have := PL_top (gX W) gX_ne
      unfold gX at this ⊢
      rw [List.length_map] at this
      exact gm_ne hc0 this
  have hTv : tl v = Es.length + 1 := tl_eq (fun i hi => by
      have := hv i
      rw [this, PL_bd (gX Es) i (by rw [hEl]; exact hi), gm_zero]) fun _ => by
      have := hv Es.length
      rw [Nat.add_sub_cancel, this]
      have := PL_top (gX Es) gX_ne
      rw [hEl] at this
      exact gm_ne hc0 this
  -- its roots
  have hroot : ∀ m, m < s.length → (ev (allF s n K) (gp (255 - m)) = 0 ↔ m ∈ W) := fun m hm => by
    by_cases hm255 : m < 255
    · rw [gp_ginv (by omega), ev_sc hall, gm_eq_zero, ev_PL _ (gp_ne m), gX_mem hW255 hm255]
      exact ⟨fun h => h.elim (fun h => absurd h hc0) id, .inr⟩
    · omega
  have hRm : ∀ m, m ∈ roN (allF s n K) s.length ↔ m ∈ W := fun m => by
    rw [roN_mem]
    constructor
    · rintro ⟨h1, h2⟩; exact (hroot m h1).1 h2
    · intro h; exact ⟨hWm m h, (hroot m (hWm m h)).2 h⟩
  have hRl : (roN (allF s n K) s.length).length = W.length := len_same (roN_nodup _ _) hWn hRm
  have hWl2 : W.length = Es.length + K.length := by rw [hW, List.length_append, hKl]
  have hsl : ∀ i, co (trim (pslope (allF s n K))) i = gm c0 (co (trim (pslope (PL (gX W)))) i) := fun i => by
    rw [slope_co, slope_co]
    unfold fD
    split
    · exact hall _
    · rw [gm_zero]
  have hfix : ∀ m ∈ W, ev (trim (pslope (allF s n K))) (gp (255 - m)) ≠ 0 ∧ efix b (trim (pslope (allF s n K))) m = co (rv s) m ^^^ co (rv c) m := fun m hm => by
    have hm255 := hW255 m hm
    obtain ⟨h1, h2⟩ := hslW (gp m) (List.mem_map.2 ⟨m, hm, rfl⟩)
    rw [he m hm255] at h2
    have h3 : ev (trim (pslope (allF s n K))) (gp (255 - m)) ≠ 0 := by
      rw [gp_ginv (by omega), ev_sc hsl]; exact gm_ne hc0 h1
    refine ⟨h3, ?_⟩
    refine gm_cancel h3 ?_
    unfold efix
    have h4 : gm (ev (trim (pslope (allF s n K))) (gp (255 - m))) (gm (gp m) (gm (ev b (gp (255 - m))) (ginv (ev (trim (pslope (allF s n K))) (gp (255 - m)))))) = gm (gm (ev (trim (pslope (allF s n K))) (gp (255 - m))) (ginv (ev (trim (pslope (allF s n K))) (gp (255 - m))))) (gm (gp m) (ev b (gp (255 - m)))) := by ac_rfl
    have hb' : ∀ i, co b i = gm c0 (co (OM e (gX W)) i) := hb
    rw [h4, gm_ginv h3, one_gm, gp_ginv (by omega), ev_sc hb', ev_sc hsl]
    have h5 : gm (gp m) (gm c0 (ev (OM e (gX W)) (ginv (gp m)))) = gm c0 (gm (gp m) (ev (OM e (gX W)) (ginv (gp m)))) := by ac_rfl
    rw [h5, h2]
    ac_rfl
  obtain ⟨o, o1, o2, o3⟩ := fixL_eq b (trim (pslope (allF s n K))) (roN (allF s n K) s.length) s 0 (roN_nodup _ _) (fun m hm => (roN_mem.1 hm).1) fun m hm => (hfix m ((hRm m).1 hm)).1
  have hoc : o = c := by
    rw [← pl_co o, ← pl_co c, o2, hl]
    refine pl_congr fun k hk => ?_
    rw [o3 k hk]
    have hrs : ∀ t : Bytes, t.length = s.length → co (rv t) (s.length - 1 - k) = co t k := fun t ht => by
      rw [co_rv, ht, if_pos (by omega)]; congr 1; omega
    by_cases hkW : s.length - 1 - k ∈ W
    · rw [if_pos ((hRm _).2 hkW), (hfix _ hkW).2, hrs s rfl, hrs c hl, ← UInt8.xor_assoc, UInt8.xor_self, UInt8.zero_xor]
    · rw [if_neg fun h => hkW ((hRm _).1 h), UInt8.xor_zero]
      have := hWo _ (by omega) hkW
      rw [hrs s rfl, hrs c hl] at this
      exact this
  have hmany : ((roN (allF s n K) s.length).filter fun m => efix b (trim (pslope (allF s n K))) m != 0).length = dfc s c := by
    have := fix_count (s := s) (o := o) (roN_nodup (allF s n K) s.length) (fun m hm => (roN_mem.1 hm).1) o3 fun _ => true
    simp only [Bool.and_true] at this
    rw [this, hoc]; rfl
  have hW0 : W.length ≠ 0 := fun h0 => by
    have hnil : W = [] := List.eq_nil_of_length_eq_zero h0
    have : s = c := by
      rw [← pl_co s, ← pl_co c, hl]
      refine pl_congr fun k hk => ?_
      have hrs : ∀ t : Bytes, t.length = s.length → co (rv t) (s.length - 1 - k) = co t k := fun t ht => by
        rw [co_rv, ht, if_pos (by omega)]; congr 1; omega
      have := hWo (s.length - 1 - k) (by omega) (by rw [hnil]; exact List.not_mem_nil)
      rw [hrs s rfl, hrs c hl] at this
      exact this
    rw [this, hc] at hr
    exact absurd hr (by decide)
  unfold decC
  rw [hsol, roF_N, List.length_map, hRl, hT]
  show (if W.length = 0 ∨ (W.length : Int) ≠ ((W.length + 1 : Nat) : Int) - 1 ∨ (n : Int) < 2 * ((tl v : Int) - 1) + (K.length : Int) then _ else _) = _
  rw [hTv, if_neg (fun h => h.elim hW0 fun h => h.elim (fun h => h (by omega)) fun h => by omega)]
  rw [show fixL (b, v).1 (trim (pslope (allF s n K))) ((roN (allF s n K) s.length).map Int.ofNat) s 0 = _ from o1, hoc, hmany]
  show (if rtB c n = true then _ else _) = _
  rw [if_pos hc, Int.zero_add]
/-- What is made of a word is right, and near it. -/
theorem decC_near {s : Bytes} {n : Nat} {K : List Int} (hs : s.length ≤ 255) (hK : (K.map Int.toNat).Nodup) (hKe : ∀ e ∈ K, 0 ≤ e ∧ e < (s.length : Int)) : decC s n K = ([], 0, 280) ∨ ∃ o, decC s n K = (o, (dfc s o : Int), 0) ∧ o.length = s.length ∧ rtB o n = true ∧ 2 * ((List.range s.length).filter fun k => co s k != co o k && !((K.map Int.toNat).contains (s.length - 1 - k))).length + K.length ≤ n := by
  unfold decC
  split
  · exact .inl rfl
  rename_i hcond
  rw [roF_N, List.length_map] at hcond
  cases hf : fixL (solF (syn s n K) n K.length).1 (trim (pslope (allF s n K))) (roF (allF s n K) s.length) s 0 with
  | none => exact .inl rfl
  | some x =>
    rw [roF_N] at hf
    have hne := fixL_some _ _ _ _ _ _ hf
    obtain ⟨o, o1, o2, o3⟩ := fixL_eq (solF (syn s n K) n K.length).1 (trim (pslope (allF s n K))) (roN (allF s n K) s.length) s 0 (roN_nodup _ _) (fun m hm => (roN_mem.1 hm).1) hne
    rw [o1] at hf
    cases hf
    show (if rtB o n = true then _ else _) = _ ∨ ∃ o', (if rtB o n = true then _ else _) = _ ∧ _
    by_cases hrt : rtB o n = true
    rotate_left
    · left; rw [if_neg hrt]
    right
    refine ⟨o, ?_, o2, hrt, ?_⟩
    · rw [if_pos hrt]
      have := fix_count (s := s) (o := o) (roN_nodup (allF s n K) s.length) (fun m hm => (roN_mem.1 hm).1) o3 fun _ => true
      simp only [Bool.and_true] at this
      rw [this, Int.zero_add]; rfl
    · have hcnt := fix_count (s := s) (o := o) (roN_nodup (allF s n K) s.length) (fun m hm => (roN_mem.1 hm).1) o3 fun m => !((K.map Int.toNat).contains m)
      rw [← hcnt]
      generalize hq : ((roN (allF s n K) s.length).filter fun m => efix (solF (syn s n K) n K.length).1 (trim (pslope (allF s n K))) m != 0 && !((K.map Int.toNat).contains m)) = Q
      have hKm : ∀ m ∈ K.map Int.toNat, m < 255 := fun m hm => by
        obtain ⟨e, h1, rfl⟩ := List.mem_map.1 hm
        have := hKe e h1
        omega
      have hallf : co (allF s n K) = fmul (co (solF (syn s n K) n K.length).2) (co (plF K)) := by unfold allF; rw [co_trimf, co_mulf]
      have hpt : tl (plF K) = K.length + 1 := by
        have h1 := PL_bd (gX (K.map Int.toNat))
        have h2 := PL_top (gX (K.map Int.toNat)) gX_ne
        have hlen : (gX (K.map Int.toNat)).length = K.length := by unfold gX; rw [List.length_map, List.length_map]
        rw [← plF_co, hlen] at h1 h2
        exact tl_eq h1 fun _ => h2
      have h0 : 0 < tl (solF (syn s n K) n K.length).2 := by
        by_cases h : 0 < tl (solF (syn s n K) n K.length).2
        · exact h
        · rw [co_zero (show tl (solF (syn s n K) n K.length).2 = 0 by omega), none_fmul] at hallf
          have : tl (allF s n K) = 0 := tl_eq (fun i _ => by rw [hallf]) fun h => absurd h (by omega)
          omega
      have hlt : (gX Q).length < tl (solF (syn s n K) n K.length).2 := roots_few (gX_nodup (by rw [← hq]; exact List.Pairwise.filter _ (roN_nodup _ _)) fun m hm => by
          rw [← hq] at hm
          have := (roN_mem.1 (List.mem_filter.1 hm).1).1
          by_cases h255 : m < 255
          · exact h255
          · omega) (fun X hX => by
          refine ⟨gX_ne X hX, ?_⟩
          obtain ⟨m, hm, rfl⟩ := List.mem_map.1 hX
          rw [← hq] at hm
          obtain ⟨hm1, hm2⟩ := List.mem_filter.1 hm
          obtain ⟨hm3, hm4⟩ := roN_mem.1 hm1
          have hm255 : m < 255 := by omega
          rw [gp_ginv (by omega), ev_mulf hallf, gm_eq_zero] at hm4
          rcases hm4 with h | h
          · exact h
          · rw [ev_co (fun i => by rw [plF_co]) (p := plF K) (q := PL (gX (K.map Int.toNat))), ev_PL _ (gp_ne m), gX_mem hKm hm255] at h
            rw [Bool.and_eq_true, Bool.not_eq_true'] at hm2
            rw [List.contains_iff_mem.2 h] at hm2
            exact absurd hm2.2 (by decide)) h0
      have hgl : (gX Q).length = Q.length := by unfold gX; rw [List.length_map]
      omega
end Ev
