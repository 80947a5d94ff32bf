/- The laws of words: what they are made of. -/
import Derived.Test.YtboamjjdpmaikaaGLaw28
import Derived.Test.YtboamjjdpmaikaaSRef27
import Derived.Test.YtboamjjdpmaikaaSRsJ
namespace Ev
open Go (IntKind)

theorem rv_rev (s : Bytes) : rv s = s.reverse := by
  apply List.ext_getElem?
  intro i
  by_cases h : i < s.length
  · rw [List.getElem?_reverse h, List.getElem?_eq_getElem (by rw [rv_len]; exact h), ← co_lt (by rw [rv_len]; exact h), co_rv, if_pos h, List.getElem?_eq_getElem (by omega), ← co_lt (by omega)]
  · rw [List.getElem?_eq_none (by rw [rv_len]; omega), List.getElem?_eq_none (by rw [List.length_reverse]; omega)]
theorem rv_snoc (t : Bytes) (c : UInt8) : rv (t ++ [c]) = c :: rv t := by rw [rv_rev, rv_rev, List.reverse_append]; rfl
theorem idx_co {s : Bytes} {i : Nat} (h : i < s.length) : idxS s (i : Int) = some (un (co s i)) := by rw [idx_of h, co_lt h]
theorem take_co {s : Bytes} {i : Nat} (h : i < s.length) : s.take (i + 1) = s.take i ++ [co s i] := by rw [List.take_succ_eq_append_getElem h, co_lt h]
theorem sign_eq (s : Bytes) (n : Nat) (hs : s.length < 1000000) (hn : n < 1000000) : law28_sign s (n : Int) = some (un (sg s n), ()) := by
  unfold law28_sign law28_sign.on
  have h2 : (2 : Int) = un 2 := rfl
  rw [h2, ref27_Pow_eq 2 n hn, bind_some, gp_gpow]
  have l1 : loopW (law28_sign.s1 s (un (gp n), ())) (0, 0, ()) [] = some ((un (sg s n), ()), []) := loop_for' s.length (fun i => (un (ev (rv (s.take i)) (gp n)), (i : Int), ())) (fun _ => []) rfl rfl (fun i hi => by
      unfold law28_sign.s1
      simp only [decide_eq_true (show (i : Int) < (s.length : Int) by omega), cond_t, ref27_Mul_eq, bind_some, idx_co hi, un_xor, wrap_succ (show i < 9223372036854775807 by omega)]
      rw [take_co hi, rv_snoc, ev]) (by
      unfold law28_sign.s1
      simp only [decide_eq_false (show ¬ ((s.length : Nat) : Int) < (s.length : Int) by omega), cond_f]
      rw [List.take_length]; rfl)
  simp only [l1, bind_some]
theorem right28_eq (s : Bytes) (n : Nat) (hs : s.length < 1000000) (hn : n < 1000000) : law28_right s (n : Int) = some (rtB s n, ()) := by
  unfold law28_right law28_right.on
  obtain ⟨w, G, l1, lw⟩ := loop_rise (step := law28_right.s1 s (n : Int)) n (fun i y G => y = ((i : Int), ()) ∧ ∀ k, k < i → sg s k = 0) (fun w G => (w = .inl () ∧ rtB s n = true) ∨ (w = .inr (false, ()) ∧ rtB s n = false))
    (by
      rintro i _ G hi ⟨rfl, hk⟩
      by_cases h0 : sg s i = 0
      · left
        refine ⟨_, G, ?_, rfl, fun k hk2 => ?_⟩
        · unfold law28_right.s1
          simp only [decide_eq_true (show (i : Int) < (n : Int) by omega), cond_t, sign_eq s i hs (by omega), bind_some, decide_eq_true ((un_zero _).2 h0), Bool.not_true, cond_f, wrap_succ (show i < 9223372036854775807 by omega)]
        · by_cases e : k = i
          · rw [e]; exact h0
          · exact hk k (by omega)
      · right
        refine ⟨.inr (false, ()), G, ?_, .inr ⟨rfl, decide_eq_false fun h => h0 (h i hi)⟩⟩
        unfold law28_right.s1
        simp only [decide_eq_true (show (i : Int) < (n : Int) by omega), cond_t, sign_eq s i hs (by omega), bind_some, decide_eq_false fun hh => h0 ((un_zero _).1 hh), Bool.not_false])
    (by
      rintro _ G ⟨rfl, hk⟩
      refine ⟨.inl (), G, ?_, .inl ⟨rfl, decide_eq_true hk⟩⟩
      unfold law28_right.s1
      simp only [decide_eq_false (show ¬ ((n : Nat) : Int) < (n : Int) by omega), cond_f])
    (y := (((0 : Nat) : Int), ())) (H := []) ⟨rfl, fun k hk => absurd hk (Nat.not_lt_zero _)⟩
  have l1' : loopW (law28_right.s1 s (n : Int)) (0, ()) [] = some (w, G) := l1
  rcases lw with ⟨rfl, h⟩ | ⟨rfl, h⟩
  · simp only [l1', bind_some, sumL, h]
  · simp only [l1', bind_some, sumR, h]
/-- A text of 1 to 60 bytes. -/
def fewF (s : Bytes) : Bytes := if 60 < s.length then s.take 60 else if s = [] then [120] else s
theorem few_len (s : Bytes) : 1 ≤ (fewF s).length ∧ (fewF s).length ≤ 60 := by
  unfold fewF
  split
  · rw [List.length_take]; omega
  · split
    · exact ⟨Nat.le_refl 1, by decide⟩
    · rename_i h1 h2
      have : s.length ≠ 0 := fun h => h2 (List.eq_nil_of_length_eq_zero h)
      omega
theorem few_eq (s : Bytes) : law28_few s = some (fewF s, ()) := by
  unfold law28_few law28_few.on fewF
  by_cases h : 60 < s.length
  · have := sub_of (s := s) (lo := 0) (hi := 60) (by omega) (by omega)
    rw [List.drop_zero] at this
    have this' : subS s 0 60 = some (s.take 60) := this
    rw [decide_eq_true (show (60 : Int) < (s.length : Int) by omega), cond_t, this', if_pos h]; rfl
  · rw [decide_eq_false (show ¬ (60 : Int) < (s.length : Int) by omega), cond_f, if_neg h]
    by_cases h2 : s = []
    · rw [decide_eq_true h2, cond_t, if_pos h2]
    · rw [decide_eq_false h2, cond_f, if_neg h2]
/-- Some bits of a number. -/
theorem low_of (x : Int) (k : Nat) (hk : k ≤ 6) : ∃ n : Nat, n < 2 ^ k ∧ bitsI .and .i64 x (2 ^ k - 1) = (n : Int) := by
  have h := and_ones (k := .i64) (x := x) k rfl (by show k < 64; omega)
  have hp : (1 : Int) ≤ 2 ^ k := by
    have : (1 : Nat) ≤ 2 ^ k := Nat.one_le_two_pow
    exact_mod_cast this
  refine ⟨(bitsI .and .i64 x (2 ^ k - 1)).toNat, ?_, (Int.toNat_of_nonneg h.1).symm⟩
  have h3 : (((2 ^ k : Nat)) : Int) = 2 ^ k := by rw [Int.natCast_pow]; rfl
  omega
theorem par31 (x : Int) : ∃ n : Nat, 1 ≤ n ∧ n ≤ 32 ∧ IntKind.wrap .i64 (1 + bitsI .and .i64 x 31) = (n : Int) := by
  obtain ⟨m, h1, h2⟩ := low_of x 5 (by decide)
  have h2' : bitsI .and .i64 x 31 = (m : Int) := h2
  refine ⟨m + 1, by omega, by have : m < 32 := h1; omega, ?_⟩
  have : m < 32 := h1
  rw [h2', wrap_i64 (by omega) (by omega)]; omega
theorem par15 (x : Int) : ∃ n : Nat, 1 ≤ n ∧ n ≤ 16 ∧ IntKind.wrap .i64 (1 + bitsI .and .i64 x 15) = (n : Int) := by
  obtain ⟨m, h1, h2⟩ := low_of x 4 (by decide)
  have h2' : bitsI .and .i64 x 15 = (m : Int) := h2
  have : m < 16 := h1
  refine ⟨m + 1, by omega, by omega, ?_⟩
  rw [h2', wrap_i64 (by omega) (by omega)]; omega
theorem dfc_one {s : Bytes} {i : Nat} {x : UInt8} (hi : i < s.length) (hx : x ≠ 0) : ((List.range s.length).filter fun k => co s k != co (s.set i (co s i ^^^ x)) k) = [i] := by
  have h1 : ∀ k, k ∈ ((List.range s.length).filter fun k => co s k != co (s.set i (co s i ^^^ x)) k) ↔ k ∈ [i] := fun k => by
    rw [List.mem_filter, List.mem_range, bne_iff_ne, List.mem_singleton, co_set]
    constructor
    · rintro ⟨h1, h2⟩
      by_cases hk : k = i
      · exact hk
      · rw [if_neg (fun h => hk h.1)] at h2
        exact absurd rfl h2
    · rintro rfl
      refine ⟨hi, ?_⟩
      rw [if_pos ⟨rfl, hi⟩]
      intro h
      have h3 := congrArg (fun y => co s k ^^^ y) h
      simp only [UInt8.xor_self, ← UInt8.xor_assoc, UInt8.zero_xor] at h3
      exact hx h3.symm
  have h2 := len_same (List.Pairwise.filter _ List.nodup_range) (List.nodup_cons.2 ⟨List.not_mem_nil, List.nodup_nil⟩) h1
  generalize ((List.range s.length).filter fun k => co s k != co (s.set i (co s i ^^^ x)) k) = l at h1 h2
  match l, h2 with
  | [a], _ => rw [List.mem_singleton.1 ((h1 a).1 (List.mem_cons_self ..))]
theorem lostK_nil (n : Nat) : lostK [] n = [] := rfl
theorem badL_nil (n : Nat) : ¬ badL [] n := fun ⟨_, h, _⟩ => by cases h
open Classical in
/-- A word of which one byte is another one. -/
theorem dec_one {s c : Bytes} {n : Nat} (hn : 2 ≤ n) (hck : ckB s.length n = true) (hl : c.length = s.length) (hc : rtB c n = true) (hr : rtB s n = false) (hd : dfc s c ≤ 1) : decF s n [] = (c, (dfc s c : Int), 0) := by
  have hck' : 1 ≤ (n : Int) ∧ (n : Int) ≤ 32 ∧ (n : Int) < (s.length : Int) ∧ (s.length : Int) ≤ 255 := of_decide_eq_true hck
  unfold decF
  rw [hck, if_neg (by decide), lostK_nil, if_neg (fun h => h.elim (badL_nil _) fun h => absurd h (Nat.not_lt_zero _)), hr, if_neg (by decide)]
  refine decC_ok (by omega) (by omega) hl hc hr List.nodup_nil (fun e he => by cases he) ?_
  have h1 : (((List.range s.length).filter fun m => decide (co (rv s) m ≠ co (rv c) m ∧ m ∉ ([] : List Int).map Int.toNat))).length = dfc s c := by
    unfold dfc
    have h2 : (((List.range s.length).filter fun m => decide (co (rv s) m ≠ co (rv c) m ∧ m ∉ ([] : List Int).map Int.toNat)).map fun m => s.length - 1 - m).Nodup := nodup_map (List.Pairwise.filter _ List.nodup_range) fun a ha b hb hab => by
      have := List.mem_range.1 (List.mem_filter.1 ha).1
      have := List.mem_range.1 (List.mem_filter.1 hb).1
      omega
    have h3 := len_same (l' := (List.range s.length).filter fun k => co s k != co c k) h2 (List.Pairwise.filter _ List.nodup_range) fun k => by
      rw [List.mem_map, List.mem_filter, List.mem_range, bne_iff_ne]
      constructor
      · rintro ⟨m, hm, rfl⟩
        obtain ⟨h4, h5⟩ := List.mem_filter.1 hm
        have h4 := List.mem_range.1 h4
        have h5 := (of_decide_eq_true h5).1
        rw [co_rv, co_rv, hl, if_pos h4, if_pos h4] at h5
        exact ⟨by omega, h5⟩
      · rintro ⟨h4, h5⟩
        refine ⟨s.length - 1 - k, List.mem_filter.2 ⟨List.mem_range.2 (by omega), decide_eq_true ⟨?_, List.not_mem_nil⟩⟩, by omega⟩
        rw [co_rv, co_rv, hl, if_pos (by omega), if_pos (by omega), show s.length - 1 - (s.length - 1 - k) = k by omega]
        exact h5
    rw [List.length_map] at h3
    exact h3
  rw [h1]
  show 2 * dfc s c + 0 ≤ n
  omega
theorem nil_row (H : Heap) (es : Nat) : Row H es ⟨none, 0, 0⟩ [] := ⟨rfl, fun _ => rfl⟩
/-- One byte is made right. -/
theorem awake28_eq : law28_awake = some (true, ()) := by
  let s : Bytes := [116, 101, 120, 116]
  have e1 : rs_Encode [116, 101, 120, 116] 4 = some (encF s 4, 0, ()) := encode_ok s 4 (by decide) (by decide) (by decide) (by decide) (by decide)
  have hl : (encF s 4).length = 8 := enc_len s 4
  have hr := enc_right s 4
  obtain ⟨a, b, c, d, hw⟩ : ∃ a b c d, encF s 4 = [116, 101, 120, 116, a, b, c, d] := ⟨co (tailF s 4) 0, co (tailF s 4) 1, co (tailF s 4) 2, co (tailF s 4) 3, by
    unfold encF tailF
    show s ++ pl 4 _ = _
    simp [pl, List.range, List.range.loop, co, s]⟩
  unfold law28_awake law28_awake.on
  rw [e1]
  simp only [bind_some, decide_eq_true (show (0 : Int) = 0 from rfl), Bool.not_true, cond_f, hl, decide_eq_true (show ((8 : Nat) : Int) = 8 from rfl)]
  have e2 : subS (encF s 4) 4 ((8 : Nat) : Int) = some [a, b, c, d] := by
    have := sub_of (s := encF s 4) (lo := 4) (hi := 8) (by decide) (by omega)
    rw [hw] at this ⊢
    exact this
  have e3 : catS [116, 105, 120, 116] [a, b, c, d] = some [116, 105, 120, 116, a, b, c, d] := cat_of (by show 8 ≤ 4611686018427387904; decide)
  simp only [e2, bind_some, e3]
  have hset : encF s 4 = ([116, 105, 120, 116, a, b, c, d] : Bytes).set 1 (co ([116, 105, 120, 116, a, b, c, d] : Bytes) 1 ^^^ 12) := by
    have hx : (105 : UInt8) ^^^ 12 = 101 := by decide
    rw [hw, show co ([116, 105, 120, 116, a, b, c, d] : Bytes) 1 = 105 from rfl, hx]; rfl
  have hdf : dfc [116, 105, 120, 116, a, b, c, d] (encF s 4) = 1 := by
    unfold dfc
    rw [hset, dfc_one (by decide : 1 < 8) (by decide)]; rfl
  have hnr : rtB [116, 105, 120, 116, a, b, c, d] 4 = false := by
    cases h : rtB [116, 105, 120, 116, a, b, c, d] 4 with
    | false => rfl
    | true =>
      have := far (x := [116, 105, 120, 116, a, b, c, d]) (y := encF s 4) (n := 4) (by decide : 8 ≤ 255) hl h hr (by rw [hdf]; decide)
      rw [hw] at this
      exact absurd (List.cons.inj (List.cons.inj this).2).1 (by decide)
  have hdec := dec_one (s := [116, 105, 120, 116, a, b, c, d]) (c := encF s 4) (n := 4) (by decide) (decide_eq_true (by simp only [List.length_cons, List.length_nil]; omega)) hl hr hnr (by rw [hdf]; exact Nat.le_refl _)
  obtain ⟨G, d1, _⟩ := decode_eq (l := []) (nil_row [] 1) (by show 0 < 100000; omega) [116, 105, 120, 116, a, b, c, d] 4 (by simp only [List.length_cons, List.length_nil]; omega) (by omega)
  rw [hdec, hdf] at d1
  have d1' : rs_Decode [116, 105, 120, 116, a, b, c, d] 4 ⟨none, 0, 0⟩ [] = some ((encF s 4, ((1 : Nat) : Int), 0, ()), G) := d1
  have e5 := right_eq (encF s 4) 4 (by omega) (by omega)
  rw [hl, hr] at e5
  have e5' : rs_Right (encF s 4) 4 = some (true, ()) := e5
  simp only [d1', bind_some, e5']
  simp
end Ev
