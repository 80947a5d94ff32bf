/- Words: the places that are known to be lost. -/
import Derived.Test.YtboamjjdpmaikaaSRsE
namespace Ev
open Go (IntKind)

theorem intC_set (l : List Int) (i : Nat) (x : Int) : (intC l).set i (.int .i64 x) = intC (l.set i x) := by simp [intC, List.map_set]
theorem intC_len (l : List Int) : (intC l).length = l.length := by simp [intC]
theorem intsOf_map : ∀ l : List Int, intsOf (intC l) = some l
  | [] => rfl
  | x :: r => by
    show (intsOf (intC r)).bind _ = _
    rw [intsOf_map r]; rfl
theorem GrowN.int_len {H0 G : Heap} {s : Sl} {l : List Int} (g : GrowN H0 G 1 s (intC l)) : s.len = l.length := by
  have := g.gr.len
  rw [intC_len] at this; omega
theorem setL_all : ∀ (D C : List C), D.length = C.length → setL C 0 D = D := by
  intro D C h
  rw [setL_front D C (by omega), List.drop_eq_nil_of_le (by omega), List.append_nil]
def sortI (l : List Int) : List Int := l.mergeSort fun x y => decide (x ≤ y)
theorem sort_eq {H0 G : Heap} {s : Sl} {l : List Int} (g : GrowN H0 G 1 s (intC l)) (hl : l.length < 1000000) : ∃ G', slices_Sort_int_int s G = some ((), G') ∧ GrowN H0 G' 1 s (intC (sortI l)) := by
  have hs := g.int_len
  have hsl : (sortI l).length = l.length := List.length_mergeSort l
  unfold slices_Sort_int_int
  by_cases h0 : l.length = 0
  · have : l = [] := List.eq_nil_of_length_eq_zero h0
    subst this
    refine ⟨G, by rw [decide_eq_true (show s.len = 0 from hs), cond_t], ?_⟩
    have : sortI [] = [] := List.eq_nil_of_length_eq_zero hsl
    rw [this]; exact g
  · rw [decide_eq_false (show ¬ s.len = 0 by omega), cond_f]
    obtain ⟨p, len, cap⟩ := s
    cases p with
    | none => exact absurd (g.gr.nil rfl) (by show ¬ len = 0; have : len = l.length := hs; omega)
    | some a =>
      obtain ⟨c, o⟩ := a
      obtain ⟨ho, hb⟩ := g.gr.blk _ rfl
      have ho' : o = 0 := ho
      subst ho'
      have hrow := g.gr.row
      have hn := g.new (c, 0) rfl
      have hn' : H0.length ≤ c := hn
      have hlen : len = l.length := hs
      simp only [bind_some, hrow, intsOf_map, decide_eq_true (show l.length < 4611686018427387904 by omega), cond_t]
      have hk : ∀ bk, Keep (fun _ => False) H0 (G.set c (.cells (intC (sortI l)) bk)) := fun bk => by
        have h1 := g.keep.len
        refine ⟨by simp; omega, fun j hj _ => ?_⟩
        rw [set_get' (by omega), g.keep.same j hj id]
      rcases hb with hb | hb
      · have hb' : G[c]? = some (.cells (intC l) .loose) := hb
        refine ⟨G.set c (.cells (intC (sortI l)) .loose), ?_, ⟨g.gr.cap, by rw [intC_len, hsl]; show _ = len * 1; omega, g.gr.nil, fun a ha => by cases ha; exact ⟨rfl, .inl (set_get (get_lt hb'))⟩⟩, hk _, g.new⟩
        rw [wr_of hb' (by decide) (by rw [List.length_map, intC_len]; have : (l.mergeSort fun x y => decide (x ≤ y)).length = l.length := hsl; omega), bind_some, setL_all _ _ (by rw [List.length_map, intC_len]; exact hsl)]
        rfl
      · have hb' : G[c]? = some (.cells (intC l) .exact) := hb
        refine ⟨G.set c (.cells (intC (sortI l)) .exact), ?_, ⟨g.gr.cap, by rw [intC_len, hsl]; show _ = len * 1; omega, g.gr.nil, fun a ha => by cases ha; exact ⟨rfl, .inr (set_get (get_lt hb'))⟩⟩, hk _, g.new⟩
        rw [wr_of hb' (by decide) (by rw [List.length_map, intC_len]; have : (l.mergeSort fun x y => decide (x ≤ y)).length = l.length := hsl; omega), bind_some, setL_all _ _ (by rw [List.length_map, intC_len]; exact hsl)]
        rfl

/-- Runs of equal ones become one: what the first i come to. -/
def cmpN (l : List Int) : Nat → List Int
  | 0 => []
  | i + 1 => if 0 < i ∧ l.getD i 0 = l.getD (i - 1) 0 then cmpN l i else cmpN l i ++ [l.getD i 0]
theorem cmpN_len (l : List Int) : ∀ i, (cmpN l i).length ≤ i
  | 0 => Nat.le_refl 0
  | i + 1 => by
    have := cmpN_len l i
    rw [cmpN]
    split
    · omega
    · rw [List.length_append, List.length_singleton]; omega
theorem cmpN_pos (l : List Int) : ∀ i, 0 < i → 0 < (cmpN l i).length
  | 0, h => absurd h (by decide)
  | i + 1, _ => by
    rw [cmpN]
    split
    · rename_i h; exact cmpN_pos l i h.1
    · rw [List.length_append, List.length_singleton]; omega
theorem getD_lt {l : List Int} {i : Nat} (h : i < l.length) : l.getD i 0 = l[i] := by simp [List.getD, h]
theorem cmpN_all {l : List Int} : ∀ (i : Nat), (∀ k, 0 < k → k < i → l.getD k 0 ≠ l.getD (k - 1) 0) → i ≤ l.length → cmpN l i = l.take i
  | 0, _, _ => by simp [cmpN]
  | i + 1, h, hi => by
    rw [cmpN, if_neg (fun hh => h i hh.1 (by omega) hh.2), cmpN_all i (fun k h1 h2 => h k h1 (by omega)) (by omega), List.take_succ_eq_append_getElem (by omega), getD_lt (by omega)]
theorem setL_take : ∀ (D cs : List C) (o n : Nat), n ≤ o → (setL cs o D).take n = cs.take n
  | [], _, _, _, _ => rfl
  | x :: D, cs, o, n, h => by
    rw [setL, setL_take D _ _ _ (by omega), List.take_set_of_le h]
theorem setL_len : ∀ (D cs : List C) (o : Nat), (setL cs o D).length = cs.length
  | [], _, _ => rfl
  | x :: D, cs, o => by rw [setL, setL_len D, List.length_set]
theorem compact_eq {H0 G : Heap} {s : Sl} {l : List Int} (g : GrowN H0 G 1 s (intC l)) (hl : l.length < 1000000) : ∃ t G', slices_Compact_int_int s G = some ((t, ()), G') ∧ Row G' 1 t (intC (cmpN l l.length)) ∧ Keep (fun _ => False) H0 G' := by
  have hs := g.int_len
  unfold slices_Compact_int_int
  by_cases h2 : l.length < 2
  · refine ⟨s, G, by rw [decide_eq_true (show (s.len : Int) < 2 by omega), cond_t], ?_, g.keep⟩
    rw [cmpN_all l.length (fun k h1 h3 => by omega) (Nat.le_refl _), List.take_length]
    exact g.row
  · rw [decide_eq_false (show ¬ (s.len : Int) < 2 by omega), cond_f]
    obtain ⟨w, G1, l1, lw⟩ := loop_rise (step := slices_Compact_int_int.s2 s) (l.length - 1) (fun i y R => y = (((i + 1 : Nat) : Int), ()) ∧ R = G ∧ ∀ k, 0 < k → k < i + 1 → l.getD k 0 ≠ l.getD (k - 1) 0)
      (fun w R => ∃ t, (w = .inl () ∧ t = s ∨ w = .inr (t, ())) ∧ Row R 1 t (intC (cmpN l l.length)) ∧ Keep (fun _ => False) H0 R)
      (by
        rintro i _ G' hi ⟨rfl, hG', hne⟩
        rw [hG']
        obtain ⟨b, o, _, a1, a2⟩ := g.row.int (i := i + 1) (by omega)
        obtain ⟨b', o', _, c1, c2⟩ := g.row.int (i := i) (by omega)
        have hwp : IntKind.wrap .i64 (((i + 1 : Nat) : Int) - 1) = (i : Int) := by rw [wrap_i64 (by omega) (by omega)]; omega
        have hlt : decide (((i + 1 : Nat) : Int) < (s.len : Int)) = true := decide_eq_true (by omega)
        by_cases he : l[i + 1] = l[i]
        · right
          obtain ⟨p, len, cap⟩ := s
          have hcap : cap = len := g.gr.cap
          have hlen : len = l.length := hs
          subst hcap
          subst hlen
          cases p with
          | none => exact absurd (g.gr.nil rfl) (by show ¬ l.length = 0; omega)
          | some a =>
            obtain ⟨c, oo⟩ := a
            have hoo : oo = 0 := (g.gr.blk _ rfl).1
            subst hoo
            have hsub : Sl.sub 1 ⟨some (c, 0), l.length, l.length⟩ ((i + 1 : Nat) : Int) (l.length : Int) (l.length : Int) = some ⟨some (c, i + 1), l.length - (i + 1), l.length - (i + 1)⟩ := by
              unfold Sl.sub
              rw [decide_eq_true (show 0 ≤ ((i + 1 : Nat) : Int) ∧ ((i + 1 : Nat) : Int) ≤ (l.length : Int) ∧ (l.length : Int) ≤ (l.length : Int) ∧ (l.length : Int) ≤ (((⟨some (c, 0), l.length, l.length⟩ : Sl).cap : Nat) : Int) from by show 0 ≤ ((i + 1 : Nat) : Int) ∧ ((i + 1 : Nat) : Int) ≤ (l.length : Int) ∧ (l.length : Int) ≤ (l.length : Int) ∧ (l.length : Int) ≤ (l.length : Int); omega), cond_t]
              simp
            obtain ⟨kk, R, m1, L2, m2, m3, m4, m5⟩ := loop_rise (step := slices_Compact_int_int.s1 ⟨some (c, 0), l.length, l.length⟩ ⟨some (c, i + 1), l.length - (i + 1), l.length - (i + 1)⟩) (l.length - (i + 2))
              (fun j y R => ∃ L2, y = (((cmpN l (i + 2 + j)).length : Int), ((j + 1 : Nat) : Int), ()) ∧ GrowN H0 R 1 ⟨some (c, 0), l.length, l.length⟩ (intC L2) ∧ L2.length = l.length ∧ (cmpN l (i + 2 + j)).length + 1 ≤ i + 2 + j ∧ L2.take (cmpN l (i + 2 + j)).length = cmpN l (i + 2 + j) ∧ ∀ m, i + 1 + j ≤ m → L2.getD m 0 = l.getD m 0)
              (fun y R => ∃ L2, y = (((cmpN l l.length).length : Int), ()) ∧ GrowN H0 R 1 ⟨some (c, 0), l.length, l.length⟩ (intC L2) ∧ L2.length = l.length ∧ (cmpN l l.length).length + 1 ≤ l.length ∧ L2.take (cmpN l l.length).length = cmpN l l.length)
              (by
                rintro j _ R hj ⟨L2, rfl, q1, q2, q3, q4, q5⟩
                left
                have rdx : ∀ m, m < l.length → rdI .i64 R c m = some (L2.getD m 0) := fun m hm => by
                  obtain ⟨b2, o2, p2, p3, p4⟩ := q1.row.int (i := m) (by omega)
                  have hp : (some (c, 0) : Option (Nat × Nat)) = some (b2, o2) := p2
                  cases hp
                  rw [Nat.zero_add] at p4
                  rw [p4, getD_lt (by omega)]
                have at7 : ∀ m : Nat, m < l.length - (i + 1) → Sl.at 1 ⟨some (c, i + 1), l.length - (i + 1), l.length - (i + 1)⟩ (m : Int) = some (c, i + 1 + m) := fun m hm => by
                  rw [at_of (by omega) (by show (m : Int) < ((l.length - (i + 1) : Nat) : Int); omega), Int.toNat_natCast, Nat.mul_one]
                have r1 := rdx (i + 1 + (j + 1)) (by omega)
                have r2 := rdx (i + 1 + j) (by omega)
                rw [q5 _ (by omega)] at r1 r2
                have hwp2 : IntKind.wrap .i64 (((j + 1 : Nat) : Int) - 1) = (j : Int) := by rw [wrap_i64 (by omega) (by omega)]; omega
                have hcm : cmpN l (i + 2 + (j + 1)) = if l.getD (i + 1 + (j + 1)) 0 = l.getD (i + 1 + j) 0 then cmpN l (i + 2 + j) else cmpN l (i + 2 + j) ++ [l.getD (i + 1 + (j + 1)) 0] := by
                  rw [show i + 2 + (j + 1) = (i + 2 + j) + 1 by omega, cmpN, show i + 1 + (j + 1) = i + 2 + j by omega, show i + 2 + j - 1 = i + 1 + j by omega]
                  by_cases hh : l.getD (i + 2 + j) 0 = l.getD (i + 1 + j) 0
                  · rw [if_pos ⟨by omega, hh⟩, if_pos hh]
                  · rw [if_neg (fun x => hh x.2), if_neg hh]
                have hlt2 : decide (((j + 1 : Nat) : Int) < ((l.length - (i + 1) : Nat) : Int)) = true := decide_eq_true (by omega)
                have hs1 := wrap_succ (show j + 1 < 9223372036854775807 by omega)
                by_cases hh : l.getD (i + 1 + (j + 1)) 0 = l.getD (i + 1 + j) 0
                · rw [if_pos hh] at hcm
                  refine ⟨_, R, ?_, L2, rfl, q1, q2, by rw [hcm]; omega, by rw [hcm]; exact q4, fun m hm => q5 m (by omega)⟩
                  unfold slices_Compact_int_int.s1
                  rw [hcm]
                  simp only [hlt2, cond_t, at7 (j + 1) (by omega), bind_some, r1, hwp2, at7 j (by omega), r2, decide_eq_true hh, Bool.not_true, cond_f, hs1]
                · rw [if_neg hh] at hcm
                  have hkl : (cmpN l (i + 2 + j)).length < L2.length := by omega
                  obtain ⟨c2, R2, s1, s2, s3, s4⟩ := GrowN.set q1 (i := (cmpN l (i + 2 + j)).length) (by rw [intC_len]; exact hkl) (.int .i64 (l.getD (i + 1 + (j + 1)) 0))
                  have hcc : (some (c, 0) : Option (Nat × Nat)) = some (c2, 0) := s1
                  cases hcc
                  rw [intC_set] at s4
                  have hs2 := wrap_succ (show (cmpN l (i + 2 + j)).length < 9223372036854775807 by omega)
                  refine ⟨_, R2, ?_, L2.set (cmpN l (i + 2 + j)).length (l.getD (i + 1 + (j + 1)) 0), rfl, s4, by rw [List.length_set]; exact q2, by rw [hcm, List.length_append, List.length_singleton]; omega, ?_, fun m hm => ?_⟩
                  · unfold slices_Compact_int_int.s1
                    rw [hcm, List.length_append, List.length_singleton]
                    simp only [hlt2, cond_t, at7 (j + 1) (by omega), bind_some, r1, hwp2, at7 j (by omega), r2, decide_eq_false hh, Bool.not_false, s2, s3, hs1, hs2]
                  · rw [hcm, List.length_append, List.length_singleton, List.take_succ_eq_append_getElem (by rw [List.length_set]; exact hkl), List.take_set_of_le (Nat.le_refl _), q4, List.getElem_set_self]
                  · rw [← q5 m (by omega)]
                    simp only [List.getD_eq_getElem?_getD]
                    rw [List.getElem?_set_ne (by omega)])
              (by
                rintro _ R ⟨L2, rfl, q1, q2, q3, q4, q5⟩
                rw [show i + 2 + (l.length - (i + 2)) = l.length by omega] at q3 q4 ⊢
                refine ⟨(((cmpN l l.length).length : Int), ()), R, ?_, L2, rfl, q1, q2, q3, q4⟩
                unfold slices_Compact_int_int.s1
                simp only [decide_eq_false (show ¬ ((l.length - (i + 2) + 1 : Nat) : Int) < ((l.length - (i + 1) : Nat) : Int) by omega), cond_f])
              (y := (((cmpN l (i + 2 + 0)).length : Int), ((0 + 1 : Nat) : Int), ())) (H := G) (by
                have hc1 : cmpN l (i + 2) = cmpN l (i + 1) := by
                  rw [cmpN, if_pos ⟨by omega, by rw [Nat.add_sub_cancel, getD_lt (by omega), getD_lt (by omega)]; exact he⟩]
                have hc2 : cmpN l (i + 1) = l.take (i + 1) := cmpN_all (i + 1) hne (by omega)
                refine ⟨l, rfl, g, rfl, ?_, ?_, fun _ _ => rfl⟩
                · rw [Nat.add_zero, hc1, hc2, List.length_take]; omega
                · rw [Nat.add_zero, hc1, hc2, List.length_take, Nat.min_eq_left (by omega)])
            subst m2
            have hk1 : (cmpN l (i + 2 + 0)).length = i + 1 := by
              have hc1 : cmpN l (i + 2) = cmpN l (i + 1) := by
                rw [cmpN, if_pos ⟨by omega, by rw [Nat.add_sub_cancel, getD_lt (by omega), getD_lt (by omega)]; exact he⟩]
              have hc2 : cmpN l (i + 1) = l.take (i + 1) := cmpN_all (i + 1) hne (by omega)
              rw [Nat.add_zero, hc1, hc2, List.length_take]; omega
            rw [hk1] at m1
            have m1' : loopW (slices_Compact_int_int.s1 ⟨some (c, 0), l.length, l.length⟩ ⟨some (c, i + 1), l.length - (i + 1), l.length - (i + 1)⟩) (((i + 1 : Nat) : Int), 1, ()) G = some ((((cmpN l l.length).length : Int), ()), R) := m1
            generalize hK : cmpN l l.length = K at m1' m5
            obtain ⟨m5a, m5b⟩ := m5
            have hsub2 : Sl.sub 1 ⟨some (c, 0), l.length, l.length⟩ (K.length : Int) (l.length : Int) (l.length : Int) = some ⟨some (c, K.length), l.length - K.length, l.length - K.length⟩ := by
              unfold Sl.sub
              rw [decide_eq_true (show 0 ≤ (K.length : Int) ∧ (K.length : Int) ≤ (l.length : Int) ∧ (l.length : Int) ≤ (l.length : Int) ∧ (l.length : Int) ≤ (((⟨some (c, 0), l.length, l.length⟩ : Sl).cap : Nat) : Int) from by show 0 ≤ (K.length : Int) ∧ (K.length : Int) ≤ (l.length : Int) ∧ (l.length : Int) ≤ (l.length : Int) ∧ (l.length : Int) ≤ (l.length : Int); omega), cond_t]
              simp
            have hsub3 : Sl.sub 1 ⟨some (c, 0), l.length, l.length⟩ 0 (K.length : Int) (l.length : Int) = some ⟨some (c, 0), K.length, l.length⟩ := by
              unfold Sl.sub
              rw [decide_eq_true (show 0 ≤ (0 : Int) ∧ (0 : Int) ≤ (K.length : Int) ∧ (K.length : Int) ≤ (l.length : Int) ∧ (l.length : Int) ≤ (((⟨some (c, 0), l.length, l.length⟩ : Sl).cap : Nat) : Int) from by show 0 ≤ (0 : Int) ∧ (0 : Int) ≤ (K.length : Int) ∧ (K.length : Int) ≤ (l.length : Int) ∧ (l.length : Int) ≤ (l.length : Int); omega), cond_t]
              simp
            have hrl : (rep (l.length - K.length) [C.int .i64 0]).length = l.length - K.length := by
              unfold rep
              simp
            obtain ⟨_, hb⟩ := m3.gr.blk _ rfl
            have hclr : ∃ R', clrS R [.int .i64 0] ⟨some (c, K.length), l.length - K.length, l.length - K.length⟩ = some R' ∧ Row R' 1 ⟨some (c, 0), K.length, l.length⟩ (intC K) ∧ Keep (fun j => j = c) R R' := by
              have hrow : ∀ bk, R[c]? = some (.cells (intC L2) bk) → Row (R.set c (.cells (setL (intC L2) K.length (rep (l.length - K.length) [C.int .i64 0])) bk)) 1 ⟨some (c, 0), K.length, l.length⟩ (intC K) := by
                intro bk hbk
                refine ⟨?_, fun h => by cases h⟩
                unfold slRow
                simp only [Heap.row, set_get (get_lt hbk)]
                rw [cut_of (by rw [setL_len, intC_len]; omega), List.drop_zero, Nat.mul_one, setL_take _ _ _ _ (Nat.le_refl _)]
                congr 1
                unfold intC
                rw [← List.map_take, m5b]
              unfold clrS
              rw [decide_eq_false (show ¬ (⟨some (c, K.length), l.length - K.length, l.length - K.length⟩ : Sl).len = 0 by show ¬ l.length - K.length = 0; omega), cond_f]
              rcases hb with hb | hb
              · have hb' : R[c]? = some (.cells (intC L2) .loose) := hb
                exact ⟨_, wr_of hb' (by decide) (by rw [hrl, intC_len]; omega), hrow _ hb', Keep.set _ _ _ rfl⟩
              · have hb' : R[c]? = some (.cells (intC L2) .exact) := hb
                exact ⟨_, wr_of hb' (by decide) (by rw [hrl, intC_len]; omega), hrow _ hb', Keep.set _ _ _ rfl⟩
            obtain ⟨R', n1, n2, n3⟩ := hclr
            have hcn : H0.length ≤ c := g.new (c, 0) rfl
            refine ⟨.inr (⟨some (c, 0), K.length, l.length⟩, ()), R', ?_, _, .inr rfl, n2, ((m3.keep.mono (G := fun j => j = c) fun _ h => h.elim).trans n3).new fun j hj hlt => by
              have : j = c := hj
              omega⟩
            unfold slices_Compact_int_int.s2
            have a1' := a1
            simp only [hlt, cond_t, a1, bind_some, a2, hwp, c1, c2, decide_eq_true he, hsub, m1', hsub2, n1, hsub3]
        · left
          refine ⟨(((i + 1 + 1 : Nat) : Int), ()), G, ?_, rfl, rfl, fun k h1 h3 => ?_⟩
          · unfold slices_Compact_int_int.s2
            simp only [hlt, cond_t, a1, bind_some, a2, hwp, c1, c2, decide_eq_false he, cond_f, wrap_succ (show i + 1 < 9223372036854775807 by omega)]
          · by_cases e : k = i + 1
            · subst e
              rw [Nat.add_sub_cancel, getD_lt (by omega), getD_lt (by omega)]; exact he
            · exact hne k h1 (by omega))
      (by
        rintro _ G' ⟨rfl, hG', hne⟩
        rw [hG']
        refine ⟨.inl (), G, ?_, s, .inl ⟨rfl, rfl⟩, ?_, g.keep⟩
        · unfold slices_Compact_int_int.s2
          simp only [decide_eq_false (show ¬ ((l.length - 1 + 1 : Nat) : Int) < (s.len : Int) by omega), cond_f]
        · rw [cmpN_all l.length (fun k h1 h3 => hne k h1 (by omega)) (Nat.le_refl _), List.take_length]
          exact g.row)
      (y := (((0 + 1 : Nat) : Int), ())) (H := G) ⟨rfl, rfl, fun k h1 h3 => by omega⟩
    have l1' : loopW (slices_Compact_int_int.s2 s) (1, ()) G = some (w, G1) := l1
    obtain ⟨t, ht, m1, m2⟩ := lw
    refine ⟨t, G1, ?_, m1, m2⟩
    rcases ht with ⟨rfl, rfl⟩ | rfl
    · simp only [l1', bind_some, sumL]
    · simp only [l1', bind_some, sumR]
end Ev
