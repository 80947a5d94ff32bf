/- Words: decoding, and that what is made is right; two right words. -/
import Derived.Test.YtboamjjdpmaikaaSRsI
namespace Ev
open Go (IntKind)

theorem sortI_le (l : List Int) : (sortI l).Pairwise (fun x y => x ≤ y) := by
  have := List.pairwise_mergeSort (le := fun x y : Int => decide (x ≤ y)) (fun a b c h1 h2 => decide_eq_true (Int.le_trans (of_decide_eq_true h1) (of_decide_eq_true h2))) (fun a b => by
    by_cases h : a ≤ b
    · rw [decide_eq_true h]; rfl
    · rw [decide_eq_true (show b ≤ a by omega), Bool.or_true]) l
  exact this.imp fun h => of_decide_eq_true h
theorem sortI_mem {l : List Int} {x : Int} : x ∈ sortI l ↔ x ∈ l := List.mem_mergeSort
theorem getD_le {l : List Int} (h : l.Pairwise (fun x y => x ≤ y)) {i j : Nat} (hij : i ≤ j) (hj : j < l.length) : l.getD i 0 ≤ l.getD j 0 := by
  rw [getD_lt hj, getD_lt (show i < l.length by omega)]
  by_cases he : i = j
  · subst he; exact Int.le_refl _
  · exact List.pairwise_iff_getElem.1 h i j (by omega) hj (by omega)
theorem cmpN_mem {l : List Int} {x : Int} : ∀ {i : Nat}, x ∈ cmpN l i ↔ ∃ k, k < i ∧ x = l.getD k 0
  | 0 => ⟨fun h => absurd h (show x ∉ ([] : List Int) from List.not_mem_nil), fun ⟨k, h, _⟩ => absurd h (Nat.not_lt_zero _)⟩
  | i + 1 => by
    rw [cmpN]
    split
    · rename_i hc
      rw [cmpN_mem]
      constructor
      · rintro ⟨k, h1, h2⟩; exact ⟨k, by omega, h2⟩
      · rintro ⟨k, h1, h2⟩
        by_cases hk : k = i
        · subst hk; exact ⟨k - 1, by omega, by rw [h2, hc.2]⟩
        · exact ⟨k, by omega, h2⟩
    · rw [List.mem_append, cmpN_mem, List.mem_singleton]
      constructor
      · rintro (⟨k, h1, h2⟩ | h)
        · exact ⟨k, by omega, h2⟩
        · exact ⟨i, by omega, h⟩
      · rintro ⟨k, h1, h2⟩
        by_cases hk : k = i
        · subst hk; exact .inr h2
        · exact .inl ⟨k, by omega, h2⟩
theorem cmpN_lt {l : List Int} (h : l.Pairwise (fun x y => x ≤ y)) : ∀ i, i ≤ l.length → (cmpN l i).Pairwise (fun x y => x < y)
  | 0, _ => List.Pairwise.nil
  | i + 1, hi => by
    rw [cmpN]
    split
    · exact cmpN_lt h i (by omega)
    · rename_i hc
      rw [List.pairwise_append]
      refine ⟨cmpN_lt h i (by omega), List.pairwise_singleton _ _, fun a ha b hb => ?_⟩
      rw [List.mem_singleton] at hb
      subst hb
      obtain ⟨k, hk, rfl⟩ := cmpN_mem.1 ha
      have h1 := getD_le h (show k ≤ i - 1 by omega) (by omega)
      have h2 := getD_le h (show i - 1 ≤ i by omega) (by omega)
      have h3 : l.getD i 0 ≠ l.getD (i - 1) 0 := fun he => hc ⟨by omega, he⟩
      omega
theorem lostK_mem {l : List Int} {n : Nat} {x : Int} : x ∈ lostK l n ↔ ∃ v ∈ l, x = (n : Int) - 1 - v := by
  unfold lostK
  have hlen : (lostM l n).length = (sortI (lostM l n)).length := (List.length_mergeSort _).symm
  rw [cmpN_mem, hlen]
  constructor
  · rintro ⟨k, h1, h2⟩
    rw [getD_lt h1] at h2
    have : x ∈ sortI (lostM l n) := by rw [h2]; exact List.getElem_mem h1
    rw [sortI_mem] at this
    obtain ⟨v, h3, h4⟩ := List.mem_map.1 this
    exact ⟨v, h3, h4.symm⟩
  · rintro ⟨v, h1, h2⟩
    have : x ∈ sortI (lostM l n) := by rw [sortI_mem]; exact List.mem_map.2 ⟨v, h1, h2.symm⟩
    obtain ⟨k, h3, h4⟩ := List.getElem_of_mem this
    exact ⟨k, h3, by rw [getD_lt h3, h4]⟩
theorem lostK_in {l : List Int} {n : Nat} (hb : ¬ badL l n) : ∀ e ∈ lostK l n, 0 ≤ e ∧ e < (n : Int) := fun e he => by
  obtain ⟨v, h1, rfl⟩ := lostK_mem.1 he
  by_cases h : v < 0 ∨ (n : Int) ≤ v
  · exact absurd ⟨v, h1, h⟩ hb
  · omega
theorem lostK_nodup {l : List Int} {n : Nat} (hb : ¬ badL l n) : ((lostK l n).map Int.toNat).Nodup := by
  have h1 : (lostK l n).Pairwise (fun x y => x < y) := by
    unfold lostK
    have hlen : (lostM l n).length = (sortI (lostM l n)).length := (List.length_mergeSort _).symm
    rw [hlen]
    exact cmpN_lt (sortI_le _) _ (Nat.le_refl _)
  have h2 := lostK_in hb
  generalize lostK l n = K at h1 h2
  induction K with
  | nil => exact List.nodup_nil
  | cons x r ih =>
    rw [List.pairwise_cons] at h1
    rw [List.map_cons, List.nodup_cons]
    refine ⟨fun hc => ?_, ih h1.2 fun e he => h2 e (List.mem_cons_of_mem _ he)⟩
    obtain ⟨y, hy, hxy⟩ := List.mem_map.1 hc
    have := h1.1 y hy
    have := h2 x (List.mem_cons_self ..)
    have := h2 y (List.mem_cons_of_mem _ hy)
    omega
/-- Places of the word itself. -/
theorem lostK_nat {l : List Int} {n k : Nat} (hb : ¬ badL l n) (hk : k < n) : n - 1 - k ∈ (lostK l n).map Int.toNat ↔ (k : Int) ∈ l := by
  rw [List.mem_map]
  constructor
  · rintro ⟨e, h1, h2⟩
    have h3 := lostK_in hb e h1
    obtain ⟨v, h4, rfl⟩ := lostK_mem.1 h1
    have : v = (k : Int) := by omega
    exact this ▸ h4
  · intro h
    exact ⟨(n : Int) - 1 - (k : Int), lostK_mem.2 ⟨_, h, rfl⟩, by omega⟩
/-- So many they are, as there are numbers, each once. -/
theorem lostK_len {l : List Int} {n : Nat} (hb : ¬ badL l n) (p : Nat → Bool) (hp : ∀ k, k < n → (p k = true ↔ (k : Int) ∈ l)) : (lostK l n).length = ((List.range n).filter p).length := by
  have h1 : (((List.range n).filter p).map fun k => n - 1 - k).Nodup := nodup_map (List.Pairwise.filter _ List.nodup_range) fun a ha b hb hab => by
    have := List.mem_range.1 (List.mem_filter.1 ha).1
    have := List.mem_range.1 (List.mem_filter.1 hb).1
    omega
  have h2 := len_same (lostK_nodup hb) h1 fun k => by
    rw [List.mem_map (l := (List.range n).filter p)]
    constructor
    · intro hk
      obtain ⟨e, he, hek⟩ := List.mem_map.1 hk
      have h3 := lostK_in hb e he
      have hkn : k < n := by omega
      refine ⟨n - 1 - k, List.mem_filter.2 ⟨List.mem_range.2 (by omega), ?_⟩, by omega⟩
      rw [hp _ (by omega)]
      refine (lostK_nat hb (by omega)).1 ?_
      rw [show n - 1 - (n - 1 - k) = k by omega]
      exact hk
    · rintro ⟨j, hj, rfl⟩
      obtain ⟨h4, h5⟩ := List.mem_filter.1 hj
      have := List.mem_range.1 h4
      exact (lostK_nat hb this).2 ((hp j this).1 h5)
  rw [List.length_map, List.length_map] at h2
  exact h2
open Classical in
/-- Decoding. -/
theorem decode_eq {H : Heap} {ts : Sl} {l : List Int} (h : Row H 1 ts (intC l)) (hl : l.length < 100000) (s : Bytes) (n : Nat) (hs : s.length < 100000) (hn : n < 1000) : ∃ G, rs_Decode s (n : Int) ts H = some (((decF s n l).1, (decF s n l).2.1, (decF s n l).2.2, ()), G) ∧ Keep (fun _ => False) H G := by
  obtain ⟨t, ok, G1, e1, e2, e3, e4⟩ := lostOf_eq h hl (long := s.length) hs (n : Int)
  unfold rs_Decode
  simp only [e1, bind_some, check_eq]
  unfold decF
  cases hck : ckB s.length n with
  | false =>
    rw [if_pos rfl]
    exact ⟨G1, rfl, e2⟩
  | true =>
    rw [if_neg (by decide)]
    have hck' : 1 ≤ (n : Int) ∧ (n : Int) ≤ 32 ∧ (n : Int) < (s.length : Int) ∧ (s.length : Int) ≤ 255 := of_decide_eq_true hck
    by_cases hb : badL l s.length
    · rw [if_pos (.inl hb), e3 hb]
      exact ⟨G1, rfl, e2⟩
    · obtain ⟨e5, e6⟩ := e4 hb
      by_cases hk : n < (lostK l s.length).length
      · rw [if_pos (.inr hk), e5, decide_eq_false (by omega)]
        exact ⟨G1, rfl, e2⟩
      · rw [if_neg (fun h => h.elim hb hk), e5, decide_eq_true (by omega)]
        simp only [Bool.not_true, cond_f, right_eq s n (by omega) (by omega), bind_some, hck, Bool.true_and]
        cases hrt : rtB s n with
        | true =>
          rw [if_pos rfl]
          exact ⟨G1, rfl, e2⟩
        | false =>
          rw [if_neg (by decide)]
          have hKm : ∀ e ∈ lostK l s.length, 0 ≤ e ∧ e < (s.length : Int) := lostK_in hb
          obtain ⟨G, f1, f2⟩ := decC_eq e6 (n := n) (s := s) (by omega) hKm (by omega) (by omega)
          exact ⟨G, f1, e2.trans f2⟩

/-! What is made is right. -/
theorem ev_two (a x : UInt8) : ev [a, 1] x = x ^^^ a := by
  show gm (gm 0 x ^^^ 1) x ^^^ a = _
  rw [zero_gm, UInt8.zero_xor, one_gm]
theorem dvF_tl : ∀ n, tl (dvF n) = n + 1
  | 0 => rfl
  | n + 1 => by
    have h2 : tl [gp n, 1] = 2 := tl_eq (fun i hi => co_ge hi) fun _ => by show (1 : UInt8) ≠ 0; decide
    rw [tl_fmul (p := dvF n) (q := [gp n, 1]) (by rw [dvF_tl n]; omega) (by omega) (by rw [dvF, co_trimf, co_mulf]), dvF_tl n, h2]
    omega
theorem dvF_root : ∀ n i, i < n → ev (dvF n) (gp i) = 0
  | 0, i, h => absurd h (Nat.not_lt_zero _)
  | n + 1, i, h => by
    rw [dvF, ev_trim, ev_pmul, ev_two, gm_eq_zero]
    by_cases hi : i = n
    · subst hi; exact .inr UInt8.xor_self
    · exact .inl (dvF_root n i (by omega))
theorem rem_len (s : Bytes) (n : Nat) : (remF s n).length ≤ n := by
  have := pmod_len (p := trim (psh n (rv s))) (q := dvF n) (by rw [dvF_tl]; omega)
  rw [dvF_tl] at this
  exact Nat.le_of_lt_succ this
theorem enc_len (s : Bytes) (n : Nat) : (encF s n).length = s.length + n := by unfold encF tailF; rw [List.length_append, pl_len]
theorem co_app (a b : Bytes) (i : Nat) : co (a ++ b) i = if i < a.length then co a i else co b (i - a.length) := by
  unfold co
  rw [List.getD_eq_getElem?_getD, List.getD_eq_getElem?_getD, List.getD_eq_getElem?_getD]
  split
  · rename_i h; rw [List.getElem?_append_left h]
  · rename_i h; rw [List.getElem?_append_right (by omega)]
theorem enc_rv (s : Bytes) (n : Nat) (i : Nat) : co (rv (encF s n)) i = co (remF s n) i ^^^ co (psh n (rv s)) i := by
  rw [co_rv, enc_len, co_psh, co_rv]
  unfold encF tailF
  by_cases h : i < s.length + n
  · rw [if_pos h, co_app]
    by_cases h2 : i < n
    · rw [if_neg (by omega), co_pl, if_pos (by omega), if_pos h2, UInt8.xor_zero]
      congr 1; omega
    · rw [if_pos (by omega), if_neg h2, if_pos (by omega), co_ge (p := remF s n) (by have := rem_len s n; omega), UInt8.zero_xor]
      congr 1; omega
  · rw [if_neg h, if_neg (by omega), if_neg (by omega), co_ge (p := remF s n) (by have := rem_len s n; omega), UInt8.xor_zero]
theorem enc_right (s : Bytes) (n : Nat) : rtB (encF s n) n = true := decide_eq_true fun i hi => by
  unfold sg
  have h1 : ev (rv (encF s n)) (gp i) = ev (padd (remF s n) (psh n (rv s))) (gp i) := ev_co (fun k => by rw [enc_rv, co_padd]) _
  rw [h1, ev_padd]
  unfold remF
  rw [ev_pmod (dvF_root n i hi), ev_trim, UInt8.xor_self]
theorem encode_ok (s : Bytes) (n : Nat) (hl : s.length < 1000) (h1 : 1 ≤ n) (h2 : n ≤ 32) (h3 : 0 < s.length) (h4 : s.length + n ≤ 255) : rs_Encode s (n : Int) = some (encF s n, 0, ()) :=
  encode_eq s n hl (by omega) (decide_eq_true (by omega)) (by rw [dvF_tl]; omega) (rem_len s n)

/-! Two right words. -/
theorem far {x y : Bytes} {n : Nat} (hs : x.length ≤ 255) (hl : y.length = x.length) (hx : rtB x n = true) (hy : rtB y n = true) (hd : dfc x y ≤ n) : x = y := by
  have hx' : ∀ i, i < n → sg x i = 0 := of_decide_eq_true hx
  have hy' : ∀ i, i < n → sg y i = 0 := of_decide_eq_true hy
  have hrs : ∀ t : Bytes, t.length = x.length → ∀ k, k < x.length → co (rv t) (x.length - 1 - k) = co t k := fun t ht k hk => by
    rw [co_rv, ht, if_pos (by omega)]; congr 1; omega
  generalize hW : ((List.range x.length).filter fun k => co x (x.length - 1 - k) != co y (x.length - 1 - k)) = W
  have hWn : W.Nodup := by rw [← hW]; exact List.Pairwise.filter _ List.nodup_range
  have hWm : ∀ m, m ∈ W ↔ m < x.length ∧ co (rv x) m ≠ co (rv y) m := fun m => by
    rw [← hW, List.mem_filter, List.mem_range, bne_iff_ne]
    constructor
    · rintro ⟨h1, h2⟩
      refine ⟨h1, fun h3 => h2 ?_⟩
      rw [co_rv, co_rv, hl, if_pos h1, if_pos h1] at h3
      exact h3
    · rintro ⟨h1, h2⟩
      refine ⟨h1, fun h3 => h2 ?_⟩
      rw [co_rv, co_rv, hl, if_pos h1, if_pos h1]
      exact h3
  have hWl : W.length = dfc x y := by
    have h1 : (W.map fun m => x.length - 1 - m).Nodup := nodup_map hWn fun a ha b hb hab => by
      have := ((hWm a).1 ha).1
      have := ((hWm b).1 hb).1
      omega
    have h2 := len_same (l' := (List.range x.length).filter fun k => co x k != co y k) h1 (List.Pairwise.filter _ List.nodup_range) fun k => by
      rw [List.mem_map, List.mem_filter, List.mem_range, bne_iff_ne]
      constructor
      · rintro ⟨m, hm, rfl⟩
        obtain ⟨h3, h4⟩ := (hWm m).1 hm
        refine ⟨by omega, fun h5 => h4 ?_⟩
        rw [co_rv, co_rv, hl, if_pos h3, if_pos h3]
        exact h5
      · rintro ⟨h3, h4⟩
        refine ⟨x.length - 1 - k, (hWm _).2 ⟨by omega, fun h5 => h4 ?_⟩, by omega⟩
        rw [hrs x rfl k h3, hrs y hl k h3] at h5
        exact h5
    rw [List.length_map] at h2
    exact h2
  have hW255 : ∀ m ∈ W, m < 255 := fun m hm => by have := ((hWm m).1 hm).1; omega
  let e : UInt8 → UInt8 := fun X => co (rv x) (lg X) ^^^ co (rv y) (lg X)
  have he : ∀ m, m < 255 → e (gp m) = co (rv x) m ^^^ co (rv y) m := fun m hm => by
    show co (rv x) (lg (gp m)) ^^^ _ = _
    rw [lg_gp hm]
  have hS : Cg n (fun _ => 0) (SG e (gX W)) := fun i hi => by
    show 0 = _
    rw [SG_list, ← hx' i hi, sg_diff hl (hy' i hi), sm_list W _ hWn (fun m hm => ((hWm m).1 hm).1) fun m hm hmW => by
      by_cases h : co (rv x) m = co (rv y) m
      · rw [h, UInt8.xor_self, zero_gm]
      · exact absurd ((hWm m).2 ⟨hm, h⟩) hmW]
    exact lsum_congr fun m hm => by rw [he m (hW255 m hm)]
  have hO : co (OM e (gX W)) = fun _ => 0 := by
    have h1 : Cg n (co (OM e (gX W))) (fun _ => 0) := by
      rw [← PL_SG e (gX W)]
      have := (hS.symm).mul2 (co (PL (gX W)))
      rw [fmul_none] at this
      exact this
    refine h1.full ((OM_bd e (gX W)).mono' ?_) fun _ _ => rfl
    unfold gX
    rw [List.length_map, hWl]; exact hd
  have hnil : ∀ m, m ∉ W := fun m hm => by
    obtain ⟨h1, h2⟩ := OM_slope e (gX W) (gX_nodup hWn hW255) gX_ne (gp m) (List.mem_map.2 ⟨m, hm, rfl⟩) (trim (pslope (PL (gX W)))) (slope_co _)
    rw [ev_none (fun i => by rw [hO]), gm_zero, he m (hW255 m hm)] at h2
    rcases gm_eq_zero.1 h2.symm with h3 | h3
    · exact ((hWm m).1 hm).2 (xor_eq_zero.1 h3)
    · exact h1 h3
  rw [← pl_co x, ← pl_co y, hl]
  refine pl_congr fun k hk => ?_
  have := hnil (x.length - 1 - k)
  rw [hWm, hrs x rfl k hk, hrs y hl k hk] at this
  by_cases h : co x k = co y k
  · exact h
  · exact absurd ⟨by omega, h⟩ this
end Ev
