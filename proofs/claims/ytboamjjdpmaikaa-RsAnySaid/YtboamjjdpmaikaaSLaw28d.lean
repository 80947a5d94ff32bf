/- The law RsAny. -/
import Derived.Test.YtboamjjdpmaikaaSLaw28c
namespace Ev
open Go (IntKind)

theorem cells_front (l : List Int) (k : Nat) : intC (l.take k) = (intC l).take k := by unfold intC; rw [List.map_take]
theorem Row.front {H : Heap} {s : Sl} {l : List Int} (h : Row H 1 s (intC l)) (hc : s.len ≤ s.cap) {k : Nat} (hk : k ≤ l.length) : ∃ t, Sl.sub 1 s 0 (k : Int) (s.cap : Int) = some t ∧ Row H 1 t (intC (l.take k)) ∧ t.len = k := by
  have hl := h.int_len
  refine ⟨⟨s.p.map fun a => (a.1, a.2 + (0 : Int).toNat * 1), (k : Int).toNat - (0 : Int).toNat, (s.cap : Int).toNat - (0 : Int).toNat⟩, ?_, ⟨?_, ?_⟩, ?_⟩
  · unfold Sl.sub
    rw [decide_eq_true ⟨Int.le_refl 0, by omega, by omega, Int.le_refl _⟩]; rfl
  · have hr := h.row
    unfold slRow at hr ⊢
    cases hp : s.p with
    | none =>
      have := h.nil hp
      have hk0 : k = 0 := by omega
      subst hk0; rfl
    | some a =>
      rw [hp] at hr
      simp only [Option.map_some] at hr ⊢
      have hr : H.row a.1 a.2 (s.len * 1) = some (intC l) := hr
      show H.row a.1 (a.2 + (0 : Int).toNat * 1) (((k : Int).toNat - (0 : Int).toNat) * 1) = some (intC (l.take k))
      have e1 : a.2 + (0 : Int).toNat * 1 = a.2 := by simp
      have e2 : ((k : Int).toNat - (0 : Int).toNat) * 1 = k := by simp
      rw [e1, e2]
      unfold Heap.row at hr ⊢
      split at hr
      · rename_i cs bk hH
        unfold cut at hr
        by_cases hd : a.2 + s.len * 1 ≤ cs.length
        · rw [decide_eq_true hd, cond_t] at hr
          have hr := Option.some.inj hr
          rw [cut_of (by omega), cells_front, ← hr, List.take_take, Nat.min_eq_left (by omega)]
        · rw [decide_eq_false hd, cond_f] at hr; cases hr
      · cases hr
  · intro hn
    cases hp : s.p with
    | none =>
      have := h.nil hp
      show (k : Int).toNat - (0 : Int).toNat = 0
      simp; omega
    | some a => rw [hp] at hn; cases hn
  · show (k : Int).toNat - (0 : Int).toNat = k
    simp
theorem came_cap {cts : List CT} {B H : Heap} {s : Sl} (h : Came cts B s H) : s.len ≤ s.cap := by
  rcases h with ⟨rfl, _⟩ | ⟨len, rows, rfl, h1, _, _, _⟩
  · exact Nat.le_refl 0
  · exact h1
/-- Which places are lost, and how many. -/
theorem any_one {s : Bytes} {t : Sl} {l : List Int} {H G0 : Heap} {L u : Nat} (hL : s.length = L) (hL2 : L < 1000) (hl : l.length < 1000) (ht : Row H 1 t (intC l)) (k0 : Keep (fun _ => False) H G0) (hu : H.length ≤ u) (ua : UAt G0 u L fun _ => false) :
    ∃ (bad : Bool) (many : Nat) (G : Heap) (f : Nat → Bool), loopW (law28_RsAny.s1 (s, ()) t (⟨some (u, 0), L, L⟩, G0)) (false, 0, 0, ()) G0 = some ((bad, (many : Int), ()), G) ∧ UAt G u L f ∧ many = cN L f ∧ (bad = true ↔ badL l L) ∧ (∀ k, k < L → (f k = true ↔ (k : Int) ∈ l)) ∧ Keep (fun _ => False) H G := by
  have htl := ht.int_len
  obtain ⟨x, G, m1, bad, many, f, rfl, q1, q2, q3, q4, q5⟩ := loop_rise (step := law28_RsAny.s1 (s, ()) t (⟨some (u, 0), L, L⟩, G0)) l.length
    (fun i y G => ∃ bad many f, y = (bad, ((many : Nat) : Int), (i : Int), ()) ∧ UAt G u L f ∧ many = cN L f ∧ (bad = true ↔ badL (l.take i) L) ∧ (∀ k, k < L → (f k = true ↔ (k : Int) ∈ l.take i)) ∧ Keep (fun j => j = u) G0 G)
    (fun x G => ∃ bad many f, x = (bad, ((many : Nat) : Int), ()) ∧ UAt G u L f ∧ many = cN L f ∧ (bad = true ↔ badL l L) ∧ (∀ k, k < L → (f k = true ↔ (k : Int) ∈ l)) ∧ Keep (fun j => j = u) G0 G)
    (by
      rintro i _ G hi ⟨bad, many, f, rfl, ua, hm, hb, hf, k1⟩
      left
      have hlt : decide ((i : Int) < (t.len : Int)) = true := decide_eq_true (by omega)
      have kH : ∀ {G'}, Keep (fun j => j = u) G0 G' → Row G' 1 t (intC l) := fun k => ht.keep ((k0.mono (G := fun j => j = u) fun _ h => h.elim).trans k) fun b o hp => by
        have := ht.lt hp
        intro h
        have h : b = u := h
        omega
      obtain ⟨b, o, _, a1, a2⟩ := (kH k1).int hi
      have htk : l.take (i + 1) = l.take i ++ [l[i]] := List.take_succ_eq_append_getElem hi
      have hbad : badL (l.take (i + 1)) L ↔ badL (l.take i) L ∨ (l[i] < 0 ∨ (L : Int) ≤ l[i]) := by
        unfold badL
        rw [htk]
        constructor
        · rintro ⟨v, hv, hv2⟩
          rcases List.mem_append.1 hv with hv | hv
          · exact .inl ⟨v, hv, hv2⟩
          · rw [List.mem_singleton] at hv; exact .inr (hv ▸ hv2)
        · rintro (⟨v, hv, hv2⟩ | h)
          · exact ⟨v, List.mem_append_left _ hv, hv2⟩
          · exact ⟨l[i], List.mem_append_right _ (List.mem_singleton.2 rfl), h⟩
      have hw := wrap_succ (show i < 9223372036854775807 by omega)
      have hmle : many ≤ L := by rw [hm]; exact cN_le _ _
      by_cases c1 : l[i] < 0
      · refine ⟨(true, (many : Int), ((i + 1 : Nat) : Int), ()), G, ?_, true, many, f, rfl, ua, hm, ⟨fun _ => hbad.2 (.inr (.inl c1)), fun _ => rfl⟩, fun k hk => ?_, k1⟩
        · unfold law28_RsAny.s1
          simp only [hlt, cond_t, a1, bind_some, a2, decide_eq_true c1, hw]
        · rw [htk, List.mem_append, List.mem_singleton, hf k hk]
          exact ⟨.inl, fun h => h.elim id fun h => by omega⟩
      by_cases c2 : (L : Int) ≤ l[i]
      · refine ⟨(true, (many : Int), ((i + 1 : Nat) : Int), ()), G, ?_, true, many, f, rfl, ua, hm, ⟨fun _ => hbad.2 (.inr (.inr c2)), fun _ => rfl⟩, fun k hk => ?_, k1⟩
        · unfold law28_RsAny.s1
          simp only [hlt, cond_t, a1, bind_some, a2, decide_eq_false c1, cond_f, hL, decide_eq_true c2, hw]
        · rw [htk, List.mem_append, List.mem_singleton, hf k hk]
          exact ⟨.inl, fun h => h.elim id fun h => by omega⟩
      obtain ⟨m, hm0⟩ : ∃ m : Nat, l[i] = (m : Int) := ⟨l[i].toNat, (Int.toNat_of_nonneg (by omega)).symm⟩
      have hmL : m < L := by omega
      have hat : Sl.at 1 ⟨some (u, 0), L, L⟩ (m : Int) = some (u, m) := BAt.at hmL
      obtain ⟨G2, w1, w2, w3⟩ := ua.set hmL true
      have hg := ua.get hmL
      have hmany : (cond (!f m) (some ((IntKind.wrap .i64 ((many : Int) + 1), ()), G)) (some (((many : Int), ()), G)) : Option ((Int × Unit) × Heap)) = some ((((cN L fun k => if k = m then true else f k : Nat) : Int), ()), G) := by
        rw [cN_split (p := fun k => if k = m then true else f k) hmL, if_pos (by simp)]
        rw [cN_split (p := f) hmL] at hm
        have h1 : cN L (fun k => (if k = m then true else f k) && k != m) = cN L (fun k => f k && k != m) := cN_congr fun k _ => by
          by_cases e : k = m
          · subst e; simp
          · rw [if_neg e]
        rw [h1]
        cases hfm : f m with
        | true => rw [hfm, if_pos rfl] at hm; rw [Bool.not_true, cond_f, hm]
        | false =>
          rw [hfm, if_neg (by decide)] at hm
          rw [Bool.not_false, cond_t, wrap_succ (by omega), hm]
      refine ⟨(bad, ((cN L fun k => if k = m then true else f k : Nat) : Int), ((i + 1 : Nat) : Int), ()), G2, ?_, bad, _, fun k => if k = m then true else f k, rfl, w2, rfl, ?_, fun k hk => ?_, k1.trans w3⟩
      · have a2m : rdI .i64 G b (o + i) = some ((m : Nat) : Int) := by rw [a2, hm0]
        unfold law28_RsAny.s1
        rw [hm0] at c1 c2
        simp only [hlt, cond_t, a1, bind_some, a2m, decide_eq_false c1, cond_f, hL, decide_eq_false c2, hat, hg, hmany, w1, hw]
      · rw [hb, hbad]
        exact ⟨.inl, fun h => h.elim id fun h => by omega⟩
      · rw [htk, List.mem_append, List.mem_singleton, ← hf k hk, hm0]
        by_cases e : k = m
        · simp only [if_pos e]; exact ⟨fun _ => .inr (by rw [e]), fun _ => trivial⟩
        · simp only [if_neg e]; exact ⟨.inl, fun h => h.elim id fun h => absurd (Int.ofNat.inj h) e⟩)
    (by
      rintro _ G ⟨bad, many, f, rfl, ua, hm, hb, hf, k1⟩
      rw [List.take_length] at hb hf
      refine ⟨(bad, (many : Int), ()), G, ?_, bad, many, f, rfl, ua, hm, hb, hf, k1⟩
      unfold law28_RsAny.s1
      simp only [decide_eq_false (show ¬ ((l.length : Nat) : Int) < (t.len : Int) by omega), cond_f])
    (y := (false, ((0 : Nat) : Int), ((0 : Nat) : Int), ())) (H := G0) ⟨false, 0, fun _ => false, rfl, ua, by unfold cN; rw [List.filter_eq_nil_iff.2 fun k _ => by decide]; rfl, ⟨fun h => absurd h (by decide), fun ⟨v, hv, _⟩ => by simp at hv⟩, fun k _ => ⟨fun h => absurd h (by simp), fun h => by simp at h⟩, Keep.refl _ _⟩
  exact ⟨bad, many, G, f, m1, q1, q2, q3, q4, ((k0.mono (G := fun j => j = u) fun _ h => h.elim).trans q5).new fun j hj hlt => by
    have : j = u := hj
    omega⟩
/-- How many are others, and how many of these were not known to be lost. -/
theorem any_two {s w : Bytes} {k e : Int} {G1 G G0 : Heap} {u : Nat} {f : Nat → Bool} (hl : w.length = s.length) (hs : s.length < 1000) (ua : UAt G u s.length f) :
    loopW (law28_RsAny.s2 (s, ()) ((w, k, e, ()), G1) (⟨some (u, 0), s.length, s.length⟩, G0)) (0, 0, 0, ()) G = some ((((cN s.length fun k => co s k != co w k : Nat) : Int), ((cN s.length fun k => co s k != co w k && !(f k) : Nat) : Int), ()), G) := by
  exact loop_for' s.length (fun i => (((cN i fun k => co s k != co w k : Nat) : Int), ((cN i fun k => co s k != co w k && !(f k) : Nat) : Int), (i : Int), ())) (fun _ => G) rfl rfl (fun i hi => by
      have h1 := cN_le i fun k => co s k != co w k
      have h2 := cN_le i fun k => co s k != co w k && !(f k)
      have hat : Sl.at 1 ⟨some (u, 0), s.length, s.length⟩ (i : Int) = some (u, i) := BAt.at hi
      rw [cN_succ, cN_succ]
      unfold law28_RsAny.s2
      simp only [decide_eq_true (show (i : Int) < (s.length : Int) by omega), cond_t, idx_co hi, idx_co (show i < w.length by omega), bind_some, hat, ua.get hi, wrap_succ (show i < 9223372036854775807 by omega), wrap_succ (show (cN i fun k => co s k != co w k) < 9223372036854775807 by omega), wrap_succ (show (cN i fun k => co s k != co w k && !(f k)) < 9223372036854775807 by omega)]
      by_cases h : co s i = co w i
      · have hb : (co s i != co w i) = false := by rw [h]; simp
        rw [hb, decide_eq_true (un_inj.2 h.symm)]
        simp
      · have hb : (co s i != co w i) = true := bne_iff_ne.2 h
        rw [hb, decide_eq_false (fun hh => h (un_inj.1 hh).symm)]
        cases f i <;> simp) (by
      unfold law28_RsAny.s2
      simp only [decide_eq_false (show ¬ ((s.length : Nat) : Int) < (s.length : Int) by omega), cond_f])
theorem dec_any {s : Bytes} {n : Nat} {l : List Int} (hn : 1 ≤ n ∧ n ≤ 32) (hs : n < s.length ∧ s.length ≤ 255) (p : Nat → Bool) (hb : ¬ badL l s.length) (hp : ∀ k, k < s.length → (p k = true ↔ (k : Int) ∈ l)) (hk : cN s.length p ≤ n) :
    (decF s n l = ([], 0, 280) ∧ rtB s n = false) ∨ ∃ o, decF s n l = (o, ((cN s.length fun k => co s k != co o k : Nat) : Int), 0) ∧ o.length = s.length ∧ rtB o n = true ∧ (2 * (cN s.length fun k => co s k != co o k && !(p k)) + cN s.length p ≤ n ∨ (cN s.length fun k => co s k != co o k) = 0) := by
  have hck : ckB s.length n = true := decide_eq_true (by omega)
  have hKl : (lostK l s.length).length = cN s.length p := lostK_len hb p hp
  unfold decF
  rw [hck, if_neg (by decide), if_neg (fun h => h.elim hb fun h => by omega)]
  cases hr : rtB s n with
  | true =>
    have h0 : (cN s.length fun k => co s k != co s k) = 0 := by
      unfold cN
      rw [List.filter_eq_nil_iff.2 fun k _ => by simp]; rfl
    right
    refine ⟨s, ?_, rfl, hr, .inr h0⟩
    rw [if_pos rfl, h0]; rfl
  | false =>
    rw [if_neg (by decide)]
    rcases decC_near (n := n) hs.2 (lostK_nodup hb) (lostK_in hb) with h | ⟨o, h1, h2, h3, h4⟩
    · exact .inl ⟨h, rfl⟩
    · right
      refine ⟨o, h1, h2, h3, .inl ?_⟩
      rw [hKl] at h4
      have h5 : cN s.length (fun k => co s k != co o k && !(((lostK l s.length).map Int.toNat).contains (s.length - 1 - k))) = cN s.length fun k => co s k != co o k && !(p k) := cN_congr fun k hk => by
        congr 2
        rw [Bool.eq_iff_iff, List.contains_iff_mem, lostK_nat hb hk, hp k hk]
      have h6 : 2 * cN s.length (fun k => co s k != co o k && !(((lostK l s.length).map Int.toNat).contains (s.length - 1 - k))) + cN s.length p ≤ n := h4
      rw [h5] at h6
      exact h6
set_option maxHeartbeats 1000000 in
theorem RsAny_true (x0 : Bytes) (x1 : Int) (x2 : Sl) {H : Heap} (_ : x0.length ≤ 140737488351232) (_ : wfC (.int .i64 x1)) (hx2 : Came [.int .i64] [] x2 H) : ∃ H', law28_RsAny x0 x1 x2 H = some ((true, ()), H') := by
  obtain ⟨l0, hrow0, hl0, _, _⟩ := came_ints hx2
  obtain ⟨n, n1, n2, hn⟩ := par15 x1
  obtain ⟨l1, l2⟩ := few_len x0
  unfold law28_RsAny
  generalize hs : fewF x0 = s at l1 l2
  obtain ⟨k, hk, hk1, hk2⟩ : ∃ k : Nat, (if (20 : Int) < (x2.len : Int) then (20 : Int) else (x2.len : Int)) = (k : Int) ∧ k ≤ l0.length ∧ k ≤ 20 := by
    by_cases h : (20 : Int) < (x2.len : Int)
    · exact ⟨20, if_pos h, by omega, by omega⟩
    · exact ⟨x2.len, if_neg h, by omega, by omega⟩
  obtain ⟨t, t1, t2, t3⟩ := hrow0.front (came_cap hx2) hk1
  have hll : (l0.take k).length = k := by rw [List.length_take]; omega
  generalize l0.take k = l at t2 hll
  obtain ⟨G1, d1, d2⟩ := decode_eq t2 (by omega) s n (by omega) (by omega)
  simp only [few_eq, hs, bind_some, hn, hk, t1, d1, awake28_eq, Bool.not_true, cond_f]
  by_cases hshort : s.length ≤ n
  · have hck : ckB s.length n = false := decide_eq_false (by omega)
    have hd : decF s n l = ([], 0, 1) := by
      unfold decF
      rw [hck, if_pos rfl]
    rw [hd]
    simp only [decide_eq_true (show (s.length : Int) ≤ (n : Int) by omega), cond_t, decide_true]
    exact ⟨G1, rfl⟩
  simp only [decide_eq_false (show ¬ (s.length : Int) ≤ (n : Int) by omega), cond_f]
  have hck : ckB s.length n = true := decide_eq_true (by omega)
  rw [mk_bools (show s.length ≤ 35184372088832 by omega)]
  obtain ⟨bad, many, G2, f, m1, q1, q2, q3, q4, q5⟩ := any_one (s := s) (t := t) (l := l) (H := H) (G0 := G1 ++ [.cells (arrC s.length fun _ => [.bool false]) .exact]) (L := s.length) (u := G1.length) rfl (by omega) (by omega) t2 (d2.trans (Keep.push _ _ _)) d2.len (by unfold UAt; exact app_last)
  simp only [bind_some, m1]
  have hmany : (cond bad (some ((true, ()), G2)) (some ((decide ((n : Int) < (many : Int)), ()), G2)) : Option ((Bool × Unit) × Heap)) = some ((bad || decide ((n : Int) < (many : Int)), ()), G2) := by cases bad <;> rfl
  rw [hmany, bind_some]
  by_cases hbad : badL l s.length
  · have hd : decF s n l = ([], 0, 280) := by
      unfold decF
      rw [hck, if_neg (by decide), if_pos (.inl hbad)]
    rw [hd, q3.2 hbad]
    simp only [Bool.true_or, cond_t, decide_true]
    exact ⟨G2, rfl⟩
  have hbf : bad = false := by
    cases h : bad with
    | false => rfl
    | true => exact absurd (q3.1 h) hbad
  have hKl : (lostK l s.length).length = cN s.length f := lostK_len hbad f q4
  by_cases hmn : n < many
  · have hd : decF s n l = ([], 0, 280) := by
      unfold decF
      rw [hck, if_neg (by decide), if_pos (.inr (by omega))]
    rw [hd, hbf, decide_eq_true (show (n : Int) < (many : Int) by omega)]
    simp only [Bool.false_or, cond_t, decide_true]
    exact ⟨G2, rfl⟩
  rw [hbf, decide_eq_false (show ¬ (n : Int) < (many : Int) by omega)]
  simp only [Bool.false_or, cond_f]
  rcases dec_any (s := s) (n := n) (l := l) ⟨n1, by omega⟩ ⟨by omega, by omega⟩ f hbad q4 (by omega) with ⟨hd, hr⟩ | ⟨o, hd, h2, h3, h4⟩
  · rw [hd]
    simp only [show decide ((280 : Int) = 0) = false from rfl, Bool.not_false, cond_t, decide_true, right28_eq s n (by omega) (by omega), bind_some, hr]
    exact ⟨G2, rfl⟩
  · rw [hd]
    simp only [decide_true, Bool.not_true, cond_f]
    have m2 := any_two (s := s) (w := o) (k := ((cN s.length fun k => co s k != co o k : Nat) : Int)) (e := 0) (G1 := G1) (G0 := G1 ++ [.cells (arrC s.length fun _ => [.bool false]) .exact]) h2 (by omega) q1
    have hc1 := cN_le s.length fun k => co s k != co o k
    have hc2 := cN_le s.length fun k => co s k != co o k && !(f k)
    simp only [m2, bind_some, h2, decide_true, cond_t, right28_eq o n (by omega) (by omega), h3]
    have hw : IntKind.wrap .i64 ((IntKind.wrap .i64 (2 * ((cN s.length fun k => co s k != co o k && !(f k) : Nat) : Int))) + (many : Int)) = ((2 * (cN s.length fun k => co s k != co o k && !(f k)) + many : Nat) : Int) := by
      rw [wrap_i64 (n := 2 * _) (by omega) (by omega), wrap_i64 (by omega) (by omega)]; omega
    rw [hw]
    by_cases hle : 2 * (cN s.length fun k => co s k != co o k && !(f k)) + many ≤ n
    · rw [decide_eq_true (show ((2 * (cN s.length fun k => co s k != co o k && !(f k)) + many : Nat) : Int) ≤ (n : Int) by omega), cond_t]
      exact ⟨G2, rfl⟩
    · rw [decide_eq_false (show ¬ ((2 * (cN s.length fun k => co s k != co o k && !(f k)) + many : Nat) : Int) ≤ (n : Int) by omega), cond_f]
      have h0 : (cN s.length fun k => co s k != co o k) = 0 := h4.resolve_left (by rw [← q2]; exact hle)
      rw [h0, decide_eq_true (show ((0 : Nat) : Int) = 0 from rfl)]
      exact ⟨G2, rfl⟩
end Ev
