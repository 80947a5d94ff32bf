/- The laws RsEncodes, RsSigns, RsFar. -/
import Derived.Test.YtboamjjdpmaikaaSLaw28
import Derived.Test.YtboamjjdpmaikaaEvOpen
namespace Ev
open Go (IntKind)

theorem RsEncodes_true (x0 : Bytes) (x1 : Int) (_ : x0.length ≤ 140737488351232) (_ : wfC (.int .i64 x1)) : law28_RsEncodes x0 x1 = some (true, ()) := by
  obtain ⟨n, n1, n2, hn⟩ := par31 x1
  obtain ⟨l1, l2⟩ := few_len x0
  unfold law28_RsEncodes law28_RsEncodes.on
  rw [hn]
  generalize hs : fewF x0 = s at l1 l2
  have hel := enc_len s n
  have hsub : subS (encF s n) 0 (s.length : Int) = some s := by
    have := sub_of (s := encF s n) (lo := 0) (hi := s.length) (by omega) (by omega)
    rw [List.drop_zero] at this
    unfold encF at this ⊢
    rw [List.take_left' rfl] at this
    exact this
  have hw : IntKind.wrap .i64 ((s.length : Int) + (n : Int)) = ((s.length + n : Nat) : Int) := by rw [wrap_i64 (by omega) (by omega)]; omega
  have hck : ckB (s.length + n : Nat) n = true := decide_eq_true (by omega)
  simp only [few_eq, hs, bind_some, encode_ok s n (by omega) n1 n2 (by omega) (by omega), awake28_eq, cond_t, decide_eq_true (show (0 : Int) = 0 from rfl), hel, hw, decide_eq_true (show ((s.length + n : Nat) : Int) = ((s.length + n : Nat) : Int) from rfl), hsub, decide_eq_true (show s = s from rfl), right28_eq _ n (show (encF s n).length < 1000000 by omega) (by omega), enc_right, right_eq _ n (show (encF s n).length < 1000000 by omega) (by omega), hck, Bool.and_self, decide_true]

theorem tmod_case (x : Int) (k : Nat) (hk : 0 < k) (hk2 : k < 1000) : (∃ n : Nat, n < k ∧ Int.tmod x (k : Int) = (n : Int)) ∨ ∃ n : Nat, n < k ∧ 0 < n ∧ Int.tmod x (k : Int) = -(n : Int) := by
  have h1 := Int.tmod_lt_of_pos x (show (0 : Int) < (k : Int) by omega)
  have h2 : -(k : Int) < Int.tmod x (k : Int) := Int.lt_tmod_of_pos x (show (0 : Int) < (k : Int) by omega)
  by_cases h : 0 ≤ Int.tmod x (k : Int)
  · left; exact ⟨(Int.tmod x (k : Int)).toNat, by omega, by omega⟩
  · right; exact ⟨(-(Int.tmod x (k : Int))).toNat, by omega, by omega, by omega⟩
theorem signs_neg (s : Bytes) (n : Nat) (H : Heap) (hl : s.length < 1000000) (hn : 0 < n) : ∃ t G, rs_Signs s (-(n : Int)) H = some ((t, ()), G) ∧ t.len = 0 := by
  obtain ⟨G0, e1, e2, e3⟩ := turned_eq s H hl
  refine ⟨⟨none, 0, 0⟩, G0, ?_, rfl⟩
  have l1 : loopW (rs_Signs.s1 (-(n : Int)) ((⟨some (H.length, 0), s.length, s.length⟩, ()), G0)) (⟨none, 0, 0⟩, 0, ()) G0 = some ((⟨none, 0, 0⟩, ()), G0) := loopW_eq (n := 1) (by
    rw [iter]
    unfold rs_Signs.s1
    simp only [show (if (0 : Int) > -(n : Int) then (0 : Int) else -(n : Int)) = 0 from if_pos (by omega), decide_eq_false (show ¬ (0 : Int) < 0 by omega), cond_f]
    rfl)
  unfold rs_Signs
  simp only [e1, bind_some, l1]
theorem right_neg (s : Bytes) (n : Nat) (hn : 0 < n) : rs_Right s (-(n : Int)) = some (false, ()) := by
  have hck : ckB (s.length : Int) (-(n : Int)) = false := decide_eq_false (by omega)
  unfold rs_Right rs_Right.on
  simp only [check_eq, bind_some, hck, cond_f]
theorem RsSigns_true (x0 : Bytes) (x1 : Int) (_ : x0.length ≤ 140737488351232) (_ : wfC (.int .i64 x1)) : law28_RsSigns x0 x1 = some (true, ()) := by
  obtain ⟨l1, l2⟩ := few_len x0
  unfold law28_RsSigns law28_RsSigns.on
  generalize hs : fewF x0 = s at l1 l2
  rcases tmod_case x1 40 (by decide) (by decide) with ⟨n, n1, hn⟩ | ⟨n, n1, n2, hn⟩
  · have hn' : Int.tmod x1 40 = (n : Int) := hn
    obtain ⟨t, G, e1, e2, e3⟩ := signs_eq s n [] (by omega) (by omega)
    have htl := e2.len
    rw [pl_len] at htl
    have hmx : (if (0 : Int) > (n : Int) then 0 else (n : Int)) = (n : Int) := if_neg (by omega)
    obtain ⟨u, G2, m1, rfl⟩ := loop_rise (step := law28_RsSigns.s1 x1 (s, ()) ((t, ()), G)) n (fun i y G2 => G2 = G ∧ y = ((i : Int), ())) (fun w _ => w = .inl ())
      (by
        rintro i _ G2 hi ⟨rfl, rfl⟩
        left
        obtain ⟨b, o, a1, a2, _⟩ := e2.byte (i := i) (by rw [pl_len]; exact hi)
        rw [co_pl, if_pos hi] at a2
        refine ⟨_, G2, ?_, rfl, rfl⟩
        unfold law28_RsSigns.s1
        simp only [hn', decide_eq_true (show (i : Int) < (n : Int) by omega), cond_t, decide_eq_false (show ¬ (t.len : Int) ≤ (i : Int) by omega), cond_f, a1, bind_some, a2, sign_eq s i (by omega) (by omega), decide_true, Bool.not_true, cond_f, wrap_succ (show i < 9223372036854775807 by omega)])
      (by
        rintro _ G2 ⟨rfl, rfl⟩
        refine ⟨.inl (), G2, ?_, rfl⟩
        unfold law28_RsSigns.s1
        simp only [hn', decide_eq_false (show ¬ ((n : Nat) : Int) < (n : Int) by omega), cond_f])
      (y := (((0 : Nat) : Int), ())) (H := G) ⟨rfl, rfl⟩
    have m1' : loopW (law28_RsSigns.s1 x1 (s, ()) ((t, ()), G)) (0, ()) G = some (.inl (), G2) := m1
    have hmay : (cond (decide ((1 : Int) ≤ (n : Int))) (cond (decide ((n : Int) ≤ 32)) (cond (decide ((n : Int) < (s.length : Int))) (some (((decide ((s.length : Int) ≤ 255)), ()), G)) (some ((false, ()), G))) (some ((false, ()), G))) (some ((false, ()), G)) : Option ((Bool × Unit) × Heap)) = some ((ckB s.length n, ()), G) := by
      unfold ckB
      have h4 : (s.length : Int) ≤ 255 := by omega
      by_cases h1 : (1 : Int) ≤ (n : Int)
      · by_cases h2 : (n : Int) ≤ 32
        · by_cases h3 : (n : Int) < (s.length : Int)
          · simp only [h1, h2, h3, h4, decide_true, cond_t, and_self]
          · simp only [h1, h2, h3, decide_true, decide_false, cond_t, cond_f, and_false, false_and]
        · simp only [h1, h2, decide_true, decide_false, cond_t, cond_f, and_false, false_and]
      · simp only [h1, decide_false, cond_f, false_and]
    simp only [few_eq, hs, bind_some, hn', e1, hmay, awake28_eq, Bool.not_true, cond_f, check_eq, right_eq s n (by omega) (by omega), right28_eq s n (by omega) (by omega)]
    have hfin : decide ((t.len : Int) = (if (0 : Int) > (n : Int) then 0 else (n : Int))) = true := decide_eq_true (by rw [hmx]; omega)
    cases ckB s.length n <;> cases rtB s n <;> simp [m1', hfin, bind_some]
  · have hn' : Int.tmod x1 40 = -(n : Int) := hn
    obtain ⟨t, G, e1, e2⟩ := signs_neg s n [] (by omega) n2
    have hck : ckB (s.length : Int) (-(n : Int)) = false := decide_eq_false (by omega)
    have m1 : loopW (law28_RsSigns.s1 x1 (s, ()) ((t, ()), G)) (0, ()) G = some (.inl (), G) := loopW_eq (n := 1) (by
      rw [iter]
      unfold law28_RsSigns.s1
      simp only [hn', decide_eq_false (show ¬ (0 : Int) < -(n : Int) by omega), cond_f]
      rfl)
    have hfin : decide ((t.len : Int) = (if (0 : Int) > -(n : Int) then 0 else -(n : Int))) = true := decide_eq_true (by rw [if_pos (by omega)]; omega)
    simp only [few_eq, hs, bind_some, hn', e1, decide_eq_false (show ¬ (1 : Int) ≤ -(n : Int) by omega), cond_f, awake28_eq, Bool.not_true, check_eq, hck, right_neg s n n2]
    simp only [beq_self_eq_true, Bool.not_true, cond_f, bind_some, sumL, m1, hfin]

theorem far_loop {v w : Bytes} (hl : w.length = v.length) (h1 : v.length < 1000000) {e f : Int} (G : Heap) : loopW (law28_RsFar.s1 (v, e, ()) (w, f, ())) (0, 0, ()) G = some (((dfc v w : Int), ()), G) := by
  let cn : Nat → Nat := fun i => ((List.range i).filter fun k => co v k != co w k).length
  have hc : ∀ i, cn (i + 1) = if co v i = co w i then cn i else cn i + 1 := fun i => by
    show ((List.range (i + 1)).filter _).length = _
    rw [List.range_succ, List.filter_append, List.length_append]
    by_cases h : co v i = co w i
    · rw [if_pos h, List.filter_cons_of_neg (by simp [h])]; rfl
    · rw [if_neg h, List.filter_cons_of_pos (by simp [h])]; rfl
  have hle : ∀ i, cn i ≤ i := fun i => Nat.le_trans (List.length_filter_le _ _) (by rw [List.length_range]; exact Nat.le_refl _)
  exact loop_for' v.length (fun i => ((cn i : Int), (i : Int), ())) (fun _ => G) rfl rfl (fun i hi => by
      have := hle i
      unfold law28_RsFar.s1
      simp only [decide_eq_true (show (i : Int) < (v.length : Int) by omega), decide_eq_true (show (i : Int) < (w.length : Int) by omega), cond_t, idx_co hi, idx_co (show i < w.length by omega), bind_some, wrap_succ (show i < 9223372036854775807 by omega), wrap_succ (show cn i < 9223372036854775807 by omega), hc i]
      by_cases h : co v i = co w i
      · simp only [h, decide_true, Bool.not_true, cond_f, if_true]
      · simp only [decide_eq_false fun hh => h (un_inj.1 hh), Bool.not_false, cond_t, if_neg h]) (by
      unfold law28_RsFar.s1
      simp only [decide_eq_false (show ¬ ((v.length : Nat) : Int) < (v.length : Int) by omega), cond_f]
      rfl)
theorem RsFar_true (x0 x1 : Bytes) (x2 : Int) (_ : x0.length ≤ 140737488351232) (_ : x1.length ≤ 140737488351232) (_ : wfC (.int .i64 x2)) : law28_RsFar x0 x1 x2 = some (true, ()) := by
  obtain ⟨n, n1, n2, hn⟩ := par15 x2
  obtain ⟨l1, l2⟩ := few_len x0
  obtain ⟨k1, k2⟩ := few_len x1
  unfold law28_RsFar law28_RsFar.on
  rw [hn]
  generalize ha : fewF x0 = a at l1 l2
  generalize hb : fewF x1 = b at k1 k2
  obtain ⟨k, hk, hka, hkb, hkp⟩ : ∃ k : Nat, (if (b.length : Int) < (a.length : Int) then (b.length : Int) else (a.length : Int)) = (k : Int) ∧ k ≤ a.length ∧ k ≤ b.length ∧ 0 < k := by
    by_cases h : (b.length : Int) < (a.length : Int)
    · exact ⟨b.length, if_pos h, by omega, by omega, by omega⟩
    · exact ⟨a.length, if_neg h, by omega, by omega, by omega⟩
  have s1 := sub_of (s := a) (lo := 0) (hi := k) (by omega) hka
  have s2 := sub_of (s := b) (lo := 0) (hi := k) (by omega) hkb
  rw [List.drop_zero] at s1 s2
  have s1' : subS a 0 (k : Int) = some (a.take k) := s1
  have s2' : subS b 0 (k : Int) = some (b.take k) := s2
  have la : (a.take k).length = k := by rw [List.length_take]; omega
  have lb : (b.take k).length = k := by rw [List.length_take]; omega
  have ev := enc_len (a.take k) n
  have ew := enc_len (b.take k) n
  simp only [few_eq, ha, hb, bind_some, hk, s1', s2', encode_ok (a.take k) n (by omega) n1 (by omega) (by omega) (by omega), encode_ok (b.take k) n (by omega) n1 (by omega) (by omega) (by omega), far_loop (v := encF (a.take k) n) (w := encF (b.take k) n) (by omega) (by omega), awake28_eq, cond_t, decide_true]
  by_cases hd : (n : Int) < (dfc (encF (a.take k) n) (encF (b.take k) n) : Int)
  · rw [decide_eq_true hd, cond_t]
  · rw [decide_eq_false hd, cond_f, decide_eq_true (far (by omega) (by omega) (enc_right _ _) (enc_right _ _) (by omega))]
end Ev
