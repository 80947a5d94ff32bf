/- The law RsOne. -/
import Derived.Test.YtboamjjdpmaikaaSLaw28a
namespace Ev
open Go (IntKind)

theorem near_one {t o : Bytes} (hl : o.length = t.length) (hd : dfc t o ≤ 1) : o = t ∨ ∃ i x, i < t.length ∧ x ≠ 0 ∧ o = t.set i (co t i ^^^ x) := by
  have hm : ∀ k, k ∈ ((List.range t.length).filter fun k => co t k != co o k) ↔ k < t.length ∧ co t k ≠ co o k := fun k => by rw [List.mem_filter, List.mem_range, bne_iff_ne]
  unfold dfc at hd
  have hext : ∀ q : Bytes, q.length = t.length → (∀ k, k < t.length → co o k = co q k) → o = q := fun q hq h => by
    rw [← pl_co o, ← pl_co q, hl, hq]
    exact pl_congr h
  generalize ((List.range t.length).filter fun k => co t k != co o k) = l at hm hd
  match l, hd with
  | [], _ =>
    left
    refine hext t rfl fun k hk => ?_
    by_cases h : co t k = co o k
    · exact h.symm
    · exact absurd ((hm k).2 ⟨hk, h⟩) List.not_mem_nil
  | [i], _ =>
    right
    obtain ⟨h1, h2⟩ := (hm i).1 (List.mem_cons_self ..)
    refine ⟨i, co t i ^^^ co o i, h1, fun h => h2 (xor_eq_zero.1 h), ?_⟩
    refine hext _ List.length_set fun k hk => ?_
    rw [co_set]
    by_cases hki : k = i
    · subst hki
      rw [if_pos ⟨rfl, h1⟩, ← UInt8.xor_assoc, UInt8.xor_self, UInt8.zero_xor]
    · rw [if_neg fun h => hki h.1]
      by_cases h : co t k = co o k
      · exact h.symm
      · exact absurd (List.mem_singleton.1 ((hm k).2 ⟨hk, h⟩)) hki
open Classical in
theorem dec_none {s : Bytes} (hck : ckB s.length 2 = true) (hr : rtB s 2 = false) (hn : ∀ i x, i < s.length → x ≠ 0 → rtB (s.set i (co s i ^^^ x)) 2 = false) : decF s 2 [] = ([], 0, 280) := by
  have hck' : 1 ≤ (2 : Int) ∧ (2 : Int) ≤ 32 ∧ (2 : Int) < (s.length : Int) ∧ (s.length : Int) ≤ 255 := of_decide_eq_true hck
  have hck2 : ckB s.length ((2 : Nat) : Int) = true := hck
  unfold decF
  rw [hck2, if_neg (by decide), lostK_nil, if_neg (fun h => h.elim (badL_nil _) fun h => absurd h (Nat.not_lt_zero _)), hr, if_neg (by decide)]
  rcases decC_near (s := s) (n := 2) (K := []) (by omega) List.nodup_nil (fun e he => absurd he List.not_mem_nil) with h | ⟨o, h1, h2, h3, h4⟩
  · exact h
  · exfalso
    have h5 : dfc s o ≤ 1 := by
      have h6 : ((List.range s.length).filter fun k => co s k != co o k && !((([] : List Int).map Int.toNat).contains (s.length - 1 - k))) = (List.range s.length).filter fun k => co s k != co o k := by
        congr 1
        funext k
        simp
      rw [h6] at h4
      unfold dfc
      simp only [List.length_nil] at h4
      omega
    rcases near_one h2 h5 with rfl | ⟨i, x, hi, hx, rfl⟩
    · rw [h3] at hr; cases hr
    · rw [hn i x hi hx] at h3; cases h3
theorem un_of {x : Nat} (h : x < 256) : un (UInt8.ofNat x) = (x : Int) := by
  show (((UInt8.ofNat x).toNat : Nat) : Int) = _
  rw [ofN_toN h]
theorem str_one (H : Heap) (c : UInt8) : strOf (H ++ [Blk.cells [.int .u8 (un c)] .exact]) ⟨some (H.length, 0), 1, 1⟩ = some [c] := by
  unfold strOf
  rw [row_last rfl]
  exact bytes_of_cells [c]
theorem one_step {t : Bytes} {i : Nat} (hi : i < t.length) (hl : t.length ≤ 8) (x : Nat) (hx : x < 256) (want : Bytes) (is : Bool) (w2 : Bytes) (b2 : Bool) (H : Heap) :
    law28_RsOne.s1 t (w2, b2, (i : Int), ()) (want, is, (x : Int), ()) H = some (if rtB (t.set i (co t i ^^^ UInt8.ofNat x)) 2 = true then .inr (t.set i (co t i ^^^ UInt8.ofNat x), true, ()) else .inl (want, is, ((x + 1 : Nat) : Int), ()), H ++ [Blk.cells [.int .u8 (un (co t i ^^^ UInt8.ofNat x))] .exact]) := by
  have s1 := sub_of (s := t) (lo := 0) (hi := i) (by omega) (by omega)
  rw [List.drop_zero] at s1
  have s1' : subS t 0 (i : Int) = some (t.take i) := s1
  have s2 := sub_of (s := t) (lo := i + 1) (hi := t.length) (by omega) (Nat.le_refl _)
  rw [List.take_length] at s2
  have hw : IntKind.wrap .u8 (x : Int) = un (UInt8.ofNat x) := by rw [un_of hx, wrap_u8]; omega
  have c1 : catS (t.take i) [co t i ^^^ UInt8.ofNat x] = some (t.take i ++ [co t i ^^^ UInt8.ofNat x]) := cat_of (by rw [List.length_take, List.length_singleton]; omega)
  have hset : t.take i ++ [co t i ^^^ UInt8.ofNat x] ++ t.drop (i + 1) = t.set i (co t i ^^^ UInt8.ofNat x) := by
    rw [List.set_eq_take_append_cons_drop, if_pos hi, List.append_assoc]; rfl
  have c2 : catS (t.take i ++ [co t i ^^^ UInt8.ofNat x]) (t.drop (i + 1)) = some (t.set i (co t i ^^^ UInt8.ofNat x)) := by
    rw [← hset]
    refine cat_of ?_
    rw [List.length_append, List.length_take, List.length_singleton, List.length_drop]; omega
  unfold law28_RsOne.s1
  have hr := right28_eq (t.set i (co t i ^^^ UInt8.ofNat x)) 2 (by rw [List.length_set]; omega) (by omega)
  have hr' : law28_right (t.set i (co t i ^^^ UInt8.ofNat x)) 2 = some (rtB (t.set i (co t i ^^^ UInt8.ofNat x)) 2, ()) := hr
  simp only [decide_eq_true (show (x : Int) < 256 by omega), cond_t, s1', bind_some, idx_co hi, hw, un_xor, str_one, c1, wrap_succ (show i < 9223372036854775807 by omega), s2, c2, hr', wrap_succ (show x < 9223372036854775807 by omega)]
  cases rtB (t.set i (co t i ^^^ UInt8.ofNat x)) 2 <;> rfl
theorem RsOne_true (x0 : Bytes) (_ : x0.length ≤ 140737488351232) : law28_RsOne x0 = some (true, ()) := by
  obtain ⟨l1, l2⟩ := few_len x0
  unfold law28_RsOne law28_RsOne.on
  generalize hs : fewF x0 = s at l1 l2
  simp only [few_eq, hs, bind_some]
  by_cases h3 : s.length < 3
  · simp only [decide_eq_true (show (s.length : Int) < 3 by omega), cond_t, awake28_eq, bind_some]
  simp only [decide_eq_false (show ¬ (s.length : Int) < 3 by omega), cond_f]
  obtain ⟨k, hk, hk1, hk2, hk3⟩ : ∃ k : Nat, (if (8 : Int) < (s.length : Int) then (8 : Int) else (s.length : Int)) = (k : Int) ∧ k ≤ s.length ∧ k ≤ 8 ∧ 3 ≤ k := by
    by_cases h : (8 : Int) < (s.length : Int)
    · exact ⟨8, if_pos h, by omega, by omega, by omega⟩
    · exact ⟨s.length, if_neg h, by omega, by omega, by omega⟩
  have s1 := sub_of (s := s) (lo := 0) (hi := k) (by omega) hk1
  rw [List.drop_zero] at s1
  have s1' : subS s 0 (k : Int) = some (s.take k) := s1
  generalize ht : s.take k = t at s1'
  have tl : t.length = k := by rw [← ht, List.length_take]; omega
  obtain ⟨G, d1, _⟩ := decode_eq (l := []) (nil_row [] 1) (by show 0 < 100000; omega) t 2 (by omega) (by omega)
  have d1' : rs_Decode t 2 ⟨none, 0, 0⟩ [] = some (((decF t 2 []).1, (decF t 2 []).2.1, (decF t 2 []).2.2, ()), G) := d1
  have hr : law28_right t 2 = some (rtB t 2, ()) := right28_eq t 2 (by omega) (by omega)
  have hck : ckB t.length 2 = true := decide_eq_true (by omega)
  simp only [hk, s1', bind_some, d1', hr]
  -- one place
  have inner : ∀ i (w : Bytes) (H : Heap), i < t.length → ∃ x G', loopW (law28_RsOne.s1 t (w, false, (i : Int), ())) (w, false, 1, ()) H = some (x, G') ∧ ((∃ y, y ≠ 0 ∧ rtB (t.set i (co t i ^^^ y)) 2 = true ∧ x = (t.set i (co t i ^^^ y), true, ())) ∨ (x = (w, false, ()) ∧ ∀ y, y ≠ 0 → rtB (t.set i (co t i ^^^ y)) 2 = false)) := by
    intro i w H hi
    obtain ⟨x, G', l1, lw⟩ := loop_rise (step := law28_RsOne.s1 t (w, false, (i : Int), ())) 255 (fun j y _ => y = (w, false, ((j + 1 : Nat) : Int), ()) ∧ ∀ k, 0 < k → k < j + 1 → rtB (t.set i (co t i ^^^ UInt8.ofNat k)) 2 = false) (fun x _ => (∃ y, y ≠ 0 ∧ rtB (t.set i (co t i ^^^ y)) 2 = true ∧ x = (t.set i (co t i ^^^ y), true, ())) ∨ (x = (w, false, ()) ∧ ∀ y, y ≠ 0 → rtB (t.set i (co t i ^^^ y)) 2 = false))
      (by
        rintro j _ G hj ⟨rfl, hk⟩
        rw [one_step hi (by omega) (j + 1) (by omega)]
        cases h : rtB (t.set i (co t i ^^^ UInt8.ofNat (j + 1))) 2 with
        | true =>
          right
          refine ⟨_, _, by rw [if_pos rfl], .inl ⟨UInt8.ofNat (j + 1), fun h0 => ?_, h, rfl⟩⟩
          have := congrArg UInt8.toNat h0
          rw [ofN_toN (by omega)] at this
          exact absurd this (by simp)
        | false =>
          left
          refine ⟨_, _, by rw [if_neg (by decide)], rfl, fun k h1 h2 => ?_⟩
          by_cases e : k = j + 1
          · rw [e]; exact h
          · exact hk k h1 (by omega))
      (by
        rintro _ G ⟨rfl, hk⟩
        refine ⟨(w, false, ()), G, ?_, .inr ⟨rfl, fun y hy => ?_⟩⟩
        · unfold law28_RsOne.s1
          simp only [decide_eq_false (show ¬ ((255 + 1 : Nat) : Int) < 256 by omega), cond_f]
        · have := hk y.toNat (by
            by_cases h : 0 < y.toNat
            · exact h
            · exact absurd (u8_ext (show y.toNat = (0 : UInt8).toNat by show y.toNat = 0; omega)) hy) (by have := y.toNat_lt; omega)
          rw [UInt8.ofNat_toNat] at this
          exact this)
      (y := (w, false, ((0 + 1 : Nat) : Int), ())) (H := H) ⟨rfl, fun k h1 h2 => by omega⟩
    exact ⟨x, G', l1, lw⟩
  obtain ⟨w, G', m1, mw⟩ := loop_rise (step := law28_RsOne.s2 t) t.length (fun i y _ => (rtB t 2 = true ∧ y = (t, true, (i : Int), ())) ∨ (rtB t 2 = false ∧ ((y = (t, false, (i : Int), ()) ∧ ∀ j x, j < i → x ≠ 0 → rtB (t.set j (co t j ^^^ x)) 2 = false) ∨ ∃ j x, j < t.length ∧ x ≠ 0 ∧ rtB (t.set j (co t j ^^^ x)) 2 = true ∧ y = (t.set j (co t j ^^^ x), true, (i : Int), ()))))
    (fun w _ => (rtB t 2 = true ∧ w = (t, true, ())) ∨ (rtB t 2 = false ∧ ((w = (t, false, ()) ∧ ∀ j x, j < t.length → x ≠ 0 → rtB (t.set j (co t j ^^^ x)) 2 = false) ∨ ∃ j x, j < t.length ∧ x ≠ 0 ∧ rtB (t.set j (co t j ^^^ x)) 2 = true ∧ w = (t.set j (co t j ^^^ x), true, ()))))
    (by
      rintro i _ H hi hI
      have hlt : decide ((i : Int) < (t.length : Int)) = true := decide_eq_true (by omega)
      rcases hI with ⟨hrt, rfl⟩ | ⟨hrt, ⟨rfl, hno⟩ | ⟨j, x, hj, hx, hrj, rfl⟩⟩
      · right
        refine ⟨(t, true, ()), H, ?_, .inl ⟨hrt, rfl⟩⟩
        unfold law28_RsOne.s2
        simp only [hlt, cond_t, Bool.not_true, cond_f]
      · left
        obtain ⟨x, G', e1, e2⟩ := inner i t H hi
        refine ⟨(x.1, x.2.1, ((i + 1 : Nat) : Int), ()), G', ?_, .inr ⟨hrt, ?_⟩⟩
        · unfold law28_RsOne.s2
          simp only [hlt, cond_t, Bool.not_false, e1, bind_some, wrap_succ (show i < 9223372036854775807 by omega)]
        · rcases e2 with ⟨y, hy, hry, rfl⟩ | ⟨rfl, hno2⟩
          · exact .inr ⟨i, y, hi, hy, hry, rfl⟩
          · refine .inl ⟨rfl, fun j x hj hx => ?_⟩
            by_cases e : j = i
            · subst e; exact hno2 x hx
            · exact hno j x (by omega) hx
      · right
        refine ⟨(t.set j (co t j ^^^ x), true, ()), H, ?_, .inr ⟨hrt, .inr ⟨j, x, hj, hx, hrj, rfl⟩⟩⟩
        unfold law28_RsOne.s2
        simp only [hlt, cond_t, Bool.not_true, cond_f])
    (by
      rintro _ H hI
      have hlt : decide (((t.length : Nat) : Int) < (t.length : Int)) = false := decide_eq_false (by omega)
      rcases hI with ⟨hrt, rfl⟩ | ⟨hrt, ⟨rfl, hno⟩ | ⟨j, x, hj, hx, hrj, rfl⟩⟩
      · refine ⟨(t, true, ()), H, ?_, .inl ⟨hrt, rfl⟩⟩
        unfold law28_RsOne.s2
        simp only [hlt, cond_f]
      · refine ⟨(t, false, ()), H, ?_, .inr ⟨hrt, .inl ⟨rfl, hno⟩⟩⟩
        unfold law28_RsOne.s2
        simp only [hlt, cond_f]
      · refine ⟨(t.set j (co t j ^^^ x), true, ()), H, ?_, .inr ⟨hrt, .inr ⟨j, x, hj, hx, hrj, rfl⟩⟩⟩
        unfold law28_RsOne.s2
        simp only [hlt, cond_f])
    (y := (t, rtB t 2, ((0 : Nat) : Int), ())) (H := G) (by
      cases h : rtB t 2 with
      | true => exact .inl ⟨rfl, rfl⟩
      | false => exact .inr ⟨rfl, .inl ⟨rfl, fun j x hj => absurd hj (Nat.not_lt_zero _)⟩⟩)
  have m1' : loopW (law28_RsOne.s2 t) (t, rtB t 2, 0, ()) G = some (w, G') := m1
  have hck2 : ckB t.length ((2 : Nat) : Int) = true := hck
  rcases mw with ⟨hrt, rfl⟩ | ⟨hrt, ⟨rfl, hno⟩ | ⟨j, x, hj, hx, hrj, rfl⟩⟩
  · have hd : decF t 2 [] = (t, 0, 0) := by
      unfold decF
      rw [hck2, if_neg (by decide), lostK_nil, if_neg (fun h => h.elim (badL_nil _) fun h => absurd h (Nat.not_lt_zero _)), hrt, if_pos rfl]
    rw [hd]
    simp only [m1', bind_some, Bool.not_true, cond_f, awake28_eq, cond_t, decide_true]
  · rw [dec_none hck hrt hno]
    simp only [m1', bind_some, Bool.not_false, cond_t, awake28_eq, decide_true]
  · rw [dec_one (c := t.set j (co t j ^^^ x)) (Nat.le_refl _) hck2 List.length_set hrj hrt (by unfold dfc; rw [dfc_one hj hx]; exact Nat.le_refl _)]
    simp only [m1', bind_some, Bool.not_true, cond_f, awake28_eq, cond_t, decide_true]
end Ev
