/- Words: how many are others; what is made right, over places of the word itself. -/
import Derived.Test.YtboamjjdpmaikaaSRsJ
namespace Ev
open Go (IntKind)

theorem rv_rev (s : Bytes) : rv s = s.reverse := by
  apply List.ext_getElem?
  intro i
  by_cases h : i < s.length
  · rw [List.getElem?_reverse h, List.getElem?_eq_getElem (by rw [rv_len]; exact h), ← co_lt (by rw [rv_len]; exact h), co_rv, if_pos h, List.getElem?_eq_getElem (by omega), ← co_lt (by omega)]
  · rw [List.getElem?_eq_none (by rw [rv_len]; omega), List.getElem?_eq_none (by rw [List.length_reverse]; omega)]
theorem rv_snoc (t : Bytes) (c : UInt8) : rv (t ++ [c]) = c :: rv t := by rw [rv_rev, rv_rev, List.reverse_append]; rfl
theorem idx_co {s : Bytes} {i : Nat} (h : i < s.length) : idxS s (i : Int) = some (un (co s i)) := by rw [idx_of h, co_lt h]
theorem take_co {s : Bytes} {i : Nat} (h : i < s.length) : s.take (i + 1) = s.take i ++ [co s i] := by rw [List.take_succ_eq_append_getElem h, co_lt h]
/-- Some bits of a number. -/
theorem low_of (x : Int) (k : Nat) (hk : k ≤ 6) : ∃ n : Nat, n < 2 ^ k ∧ bitsI .and .i64 x (2 ^ k - 1) = (n : Int) := by
  have h := and_ones (k := .i64) (x := x) k rfl (by show k < 64; omega)
  have hp : (1 : Int) ≤ 2 ^ k := by
    have : (1 : Nat) ≤ 2 ^ k := Nat.one_le_two_pow
    exact_mod_cast this
  refine ⟨(bitsI .and .i64 x (2 ^ k - 1)).toNat, ?_, (Int.toNat_of_nonneg h.1).symm⟩
  have h3 : (((2 ^ k : Nat)) : Int) = 2 ^ k := by rw [Int.natCast_pow]; rfl
  omega
theorem dfc_one {s : Bytes} {i : Nat} {x : UInt8} (hi : i < s.length) (hx : x ≠ 0) : ((List.range s.length).filter fun k => co s k != co (s.set i (co s i ^^^ x)) k) = [i] := by
  have h1 : ∀ k, k ∈ ((List.range s.length).filter fun k => co s k != co (s.set i (co s i ^^^ x)) k) ↔ k ∈ [i] := fun k => by
    rw [List.mem_filter, List.mem_range, bne_iff_ne, List.mem_singleton, co_set]
    constructor
    · rintro ⟨h1, h2⟩
      by_cases hk : k = i
      · exact hk
      · rw [if_neg (fun h => hk h.1)] at h2
        exact absurd rfl h2
    · rintro rfl
      refine ⟨hi, ?_⟩
      rw [if_pos ⟨rfl, hi⟩]
      intro h
      have h3 := congrArg (fun y => co s k ^^^ y) h
      simp only [UInt8.xor_self, ← UInt8.xor_assoc, UInt8.zero_xor] at h3
      exact hx h3.symm
  have h2 := len_same (List.Pairwise.filter _ List.nodup_range) (List.nodup_cons.2 ⟨List.not_mem_nil, List.nodup_nil⟩) h1
  generalize ((List.range s.length).filter fun k => co s k != co (s.set i (co s i ^^^ x)) k) = l at h1 h2
  match l, h2 with
  | [a], _ => rw [List.mem_singleton.1 ((h1 a).1 (List.mem_cons_self ..))]
theorem lostK_nil (n : Nat) : lostK [] n = [] := rfl
theorem badL_nil (n : Nat) : ¬ badL [] n := fun ⟨_, h, _⟩ => by cases h
theorem nil_row (H : Heap) (es : Nat) : Row H es ⟨none, 0, 0⟩ [] := ⟨rfl, fun _ => rfl⟩
theorem near_one {t o : Bytes} (hl : o.length = t.length) (hd : dfc t o ≤ 1) : o = t ∨ ∃ i x, i < t.length ∧ x ≠ 0 ∧ o = t.set i (co t i ^^^ x) := by
  have hm : ∀ k, k ∈ ((List.range t.length).filter fun k => co t k != co o k) ↔ k < t.length ∧ co t k ≠ co o k := fun k => by rw [List.mem_filter, List.mem_range, bne_iff_ne]
  unfold dfc at hd
  have hext : ∀ q : Bytes, q.length = t.length → (∀ k, k < t.length → co o k = co q k) → o = q := fun q hq h => by
    rw [← pl_co o, ← pl_co q, hl, hq]
    exact pl_congr h
  generalize ((List.range t.length).filter fun k => co t k != co o k) = l at hm hd
  match l, hd with
  | [], _ =>
    left
    refine hext t rfl fun k hk => ?_
    by_cases h : co t k = co o k
    · exact h.symm
    · exact absurd ((hm k).2 ⟨hk, h⟩) List.not_mem_nil
  | [i], _ =>
    right
    obtain ⟨h1, h2⟩ := (hm i).1 (List.mem_cons_self ..)
    refine ⟨i, co t i ^^^ co o i, h1, fun h => h2 (xor_eq_zero.1 h), ?_⟩
    refine hext _ List.length_set fun k hk => ?_
    rw [co_set]
    by_cases hki : k = i
    · subst hki
      rw [if_pos ⟨rfl, h1⟩, ← UInt8.xor_assoc, UInt8.xor_self, UInt8.zero_xor]
    · rw [if_neg fun h => hki h.1]
      by_cases h : co t k = co o k
      · exact h.symm
      · exact absurd (List.mem_singleton.1 ((hm k).2 ⟨hk, h⟩)) hki
theorem un_of {x : Nat} (h : x < 256) : un (UInt8.ofNat x) = (x : Int) := by
  show (((UInt8.ofNat x).toNat : Nat) : Int) = _
  rw [ofN_toN h]
theorem u8_of {v : Int} (h0 : 0 ≤ v) (h1 : v ≤ 255) : ∃ x : UInt8, v = un x := ⟨UInt8.ofNat v.toNat, by rw [un_of (by omega)]; omega⟩
def UAt (H : Heap) (c n : Nat) (f : Nat → Bool) : Prop := H[c]? = some (.cells (arrC n fun k => [.bool (f k)]) .exact)
theorem UAt.get {H : Heap} {c n : Nat} {f : Nat → Bool} (h : UAt H c n f) {i : Nat} (hi : i < n) : rdB H c i = some (f i) := by
  have := arrC_get (f := fun k => [C.bool (f k)]) (es := 1) (fun _ => rfl) (j := 0) (by decide) hi
  rw [Nat.mul_one, Nat.add_zero] at this
  exact rdB_of h this
theorem UAt.set {H : Heap} {c n : Nat} {f : Nat → Bool} (h : UAt H c n f) {i : Nat} (hi : i < n) (x : Bool) : ∃ G, wr H c i [.bool x] = some G ∧ UAt G c n (fun k => if k = i then x else f k) ∧ Keep (fun j => j = c) H G := by
  have hl := arrC_length (f := fun k => [C.bool (f k)]) (es := 1) (fun _ => rfl) n
  have hs := arrC_set (f := fun k => [C.bool (f k)]) (es := 1) (fun _ => rfl) (j := 0) (by decide) (.bool x) hi
  rw [Nat.mul_one, Nat.add_zero] at hs
  refine ⟨_, wr1_of h (by decide) (by omega), ?_, Keep.set _ _ _ rfl⟩
  unfold UAt
  rw [set_get (get_lt h), hs]
  congr 2
  refine arrC_congr fun k _ => ?_
  by_cases hk : k = i
  · subst hk; simp
  · simp [hk]
theorem mk_bools {H : Heap} {n : Nat} (h : n ≤ 35184372088832) : mkS H 1 [.bool false] (n : Int) (n : Int) = some (⟨some (H.length, 0), n, n⟩, H ++ [.cells (arrC n fun _ => [.bool false]) .exact]) := by
  unfold mkS
  have : decide (0 ≤ (n : Int) ∧ (n : Int) ≤ (n : Int) ∧ (n : Int).toNat * 1 ≤ maxRow ∧ (n : Int).toNat ≤ maxRow) = true := decide_eq_true ⟨by omega, by omega, by unfold maxRow; omega, by unfold maxRow; omega⟩
  rw [this, cond_t, Int.toNat_natCast]
  have : rep n [C.bool false] = arrC n fun _ => [.bool false] := by
    unfold rep
    clear h this
    induction n with
    | zero => rfl
    | succ n ih => rw [List.replicate_succ', List.flatten_append, ih, arrC]; rfl
  rw [this]
theorem xor_ne {a x : UInt8} : a ^^^ x = a ↔ x = 0 := by
  constructor
  · intro h
    have h3 := congrArg (fun y => a ^^^ y) h
    simp only [UInt8.xor_self, ← UInt8.xor_assoc, UInt8.zero_xor] at h3
    exact h3
  · rintro rfl; exact UInt8.xor_zero
/-! Counting. -/
def cN (L : Nat) (p : Nat → Bool) : Nat := ((List.range L).filter p).length
theorem cN_succ (L : Nat) (p : Nat → Bool) : cN (L + 1) p = cN L p + (if p L = true then 1 else 0) := by
  unfold cN
  rw [List.range_succ, List.filter_append, List.length_append]
  congr 1
  cases h : p L with
  | true => rw [List.filter_cons_of_pos h]; rfl
  | false => rw [List.filter_cons_of_neg (by rw [h]; decide)]; rfl
theorem cN_congr {p q : Nat → Bool} : ∀ {L : Nat}, (∀ k, k < L → p k = q k) → cN L p = cN L q
  | 0, _ => rfl
  | L + 1, h => by rw [cN_succ, cN_succ, cN_congr fun k hk => h k (by omega), h L (by omega)]
theorem cN_split {p : Nat → Bool} {a : Nat} : ∀ {L : Nat}, a < L → cN L p = cN L (fun k => p k && k != a) + (if p a = true then 1 else 0)
  | 0, h => absurd h (Nat.not_lt_zero _)
  | L + 1, h => by
    rw [cN_succ, cN_succ]
    by_cases ha : a = L
    · subst ha
      have : cN a (fun k => p k && k != a) = cN a p := cN_congr fun k hk => by
        have : (k != a) = true := bne_iff_ne.2 (by omega)
        rw [this, Bool.and_true]
      rw [this]
      simp
    · rw [cN_split (L := L) (a := a) (by omega)]
      have : (L != a) = true := bne_iff_ne.2 (by omega)
      rw [this, Bool.and_true]
      omega
theorem cN_le (L : Nat) (p : Nat → Bool) : cN L p ≤ L := Nat.le_trans (List.length_filter_le _ _) (by rw [List.length_range]; exact Nat.le_refl _)
theorem cN_mono {p q : Nat → Bool} : ∀ {L : Nat}, (∀ k, k < L → p k = true → q k = true) → cN L p ≤ cN L q
  | 0, _ => Nat.le_refl 0
  | L + 1, h => by
    rw [cN_succ, cN_succ]
    have := cN_mono (L := L) fun k hk => h k (by omega)
    have := h L (by omega)
    by_cases hp : p L = true
    · rw [if_pos hp, if_pos (this hp)]; omega
    · rw [if_neg hp]; omega
theorem cN_or (p q : Nat → Bool) : ∀ L, cN L (fun k => p k || q k) ≤ cN L p + cN L q
  | 0 => Nat.le_refl 0
  | L + 1 => by
    rw [cN_succ, cN_succ, cN_succ]
    have := cN_or p q L
    cases p L <;> cases q L <;> simp <;> omega
theorem cN_list {L : Nat} {l : List Nat} (hn : l.Nodup) (hl : ∀ k ∈ l, k < L) : cN L (fun k => l.contains k) = l.length := by
  refine len_same (List.Pairwise.filter _ List.nodup_range) hn fun k => ?_
  rw [List.mem_filter, List.mem_range, List.contains_iff_mem]
  exact ⟨fun h => h.2, fun h => ⟨hl k h, h⟩⟩
open Classical in
theorem cnt_rev {s c : Bytes} (hl : c.length = s.length) {l : List Int} (hb : ¬ badL l s.length) (p : Nat → Bool) (hp : ∀ k, k < s.length → (p k = true ↔ (k : Int) ∈ l)) : ((List.range s.length).filter fun m => decide (co (rv s) m ≠ co (rv c) m ∧ m ∉ (lostK l s.length).map Int.toNat)).length = cN s.length fun k => co s k != co c k && !(p k) := by
  have h2 : (((List.range s.length).filter fun m => decide (co (rv s) m ≠ co (rv c) m ∧ m ∉ (lostK l s.length).map Int.toNat)).map fun m => s.length - 1 - m).Nodup := nodup_map (List.Pairwise.filter _ List.nodup_range) fun a ha b hb hab => by
    have := List.mem_range.1 (List.mem_filter.1 ha).1
    have := List.mem_range.1 (List.mem_filter.1 hb).1
    omega
  have hpn : ∀ k, k < s.length → (p k = false ↔ (k : Int) ∉ l) := fun k hk => by
    rw [← hp k hk]
    cases p k <;> simp
  have h3 := len_same (l' := (List.range s.length).filter fun k => co s k != co c k && !(p k)) h2 (List.Pairwise.filter _ List.nodup_range) fun k => by
    rw [List.mem_map, List.mem_filter, List.mem_range, Bool.and_eq_true, bne_iff_ne, Bool.not_eq_true']
    constructor
    · rintro ⟨m, hm, rfl⟩
      obtain ⟨h4, h5⟩ := List.mem_filter.1 hm
      have h4 := List.mem_range.1 h4
      obtain ⟨h5, h6⟩ := of_decide_eq_true h5
      rw [co_rv, co_rv, hl, if_pos h4, if_pos h4] at h5
      refine ⟨by omega, h5, (hpn _ (by omega)).2 fun h7 => h6 ?_⟩
      have := (lostK_nat hb (show s.length - 1 - m < s.length by omega)).2 h7
      rw [show s.length - 1 - (s.length - 1 - m) = m by omega] at this
      exact this
    · rintro ⟨h4, h5, h6⟩
      refine ⟨s.length - 1 - k, List.mem_filter.2 ⟨List.mem_range.2 (by omega), decide_eq_true ⟨?_, fun h7 => (hpn k h4).1 h6 ((lostK_nat hb h4).1 h7)⟩⟩, by omega⟩
      rw [co_rv, co_rv, hl, if_pos (by omega), if_pos (by omega), show s.length - 1 - (s.length - 1 - k) = k by omega]
      exact h5
  rw [List.length_map] at h3
  exact h3
/-- A word of which not too many bytes are others, or lost. -/
theorem dec_ok {s c : Bytes} {n : Nat} {l : List Int} (hck : ckB s.length n = true) (hl : c.length = s.length) (hc : rtB c n = true) (p : Nat → Bool) (hb : ¬ badL l s.length) (hp : ∀ k, k < s.length → (p k = true ↔ (k : Int) ∈ l)) (hd : 2 * (cN s.length fun k => co s k != co c k && !(p k)) + cN s.length p ≤ n) : decF s n l = (c, (dfc s c : Int), 0) := by
  have hck' : 1 ≤ (n : Int) ∧ (n : Int) ≤ 32 ∧ (n : Int) < (s.length : Int) ∧ (s.length : Int) ≤ 255 := of_decide_eq_true hck
  have hKl : (lostK l s.length).length = cN s.length p := lostK_len hb p hp
  unfold decF
  rw [hck, if_neg (by decide), if_neg (fun h => h.elim hb fun h => by omega)]
  cases hr : rtB s n with
  | true =>
    have hdf : dfc s c ≤ n := by
      have h1 : dfc s c = cN s.length fun k => co s k != co c k := rfl
      have h2 := cN_or (fun k => co s k != co c k && !(p k)) p s.length
      have h3 : cN s.length (fun k => co s k != co c k) ≤ cN s.length fun k => (co s k != co c k && !(p k)) || p k := cN_mono fun k _ h => by
        rw [h, Bool.true_and]
        cases p k <;> rfl
      omega
    have := far (by omega) hl hr hc hdf
    subst this
    rw [if_pos rfl]
    have : dfc s s = 0 := by
      unfold dfc
      rw [List.filter_eq_nil_iff.2 fun k _ => by simp]; rfl
    rw [this]; rfl
  | false =>
    rw [if_neg (by decide)]
    refine decC_ok (by omega) (by omega) hl hc hr (lostK_nodup hb) (lostK_in hb) ?_
    have := cnt_rev hl hb p hp
    rw [hKl]
    have h4 : ∀ x, x = (cN s.length fun k => co s k != co c k && !(p k)) → 2 * x + cN s.length p ≤ n := fun x hx => by rw [hx]; exact hd
    refine h4 _ ?_
    rw [← this]

end Ev
