/- CellHealth: the law. -/
import Derived.Test.YtpebaginkkbnpaaGreatSLaw30h
namespace Ev
open Go (IntKind)

theorem came_len {cts : List CT} {B H : Heap} {s : Sl} (h : Came cts B s H) : s.len ≤ 9223372036854775807 := by
  rcases h with ⟨rfl, rfl⟩ | ⟨len, rows, rfl, h1, h2, rfl, h3⟩
  · exact Nat.zero_le _
  · have : Go.maxLen = 9223372036854775807 := rfl
    show len ≤ _
    omega
theorem pages_lay {a : NdA} {s : Nd} {b p : Nat} {t : Bytes} {k j : Nat} (h : k ≠ b) : (s.lay a b p t).pages k j = s.pages k j := by
  unfold Nd.lay upd2
  simp only
  rw [if_neg fun hh => h hh.1]
theorem two_parts (x0 : Bytes) : (textF x0 64 ++ textF x0 32).take 64 = textF x0 64 ∧ (textF x0 64 ++ textF x0 32).drop 64 = textF x0 32 :=
  ⟨by rw [List.take_append_of_le_length (by rw [textF_len]; exact Nat.le_refl _), List.take_of_length_le (by rw [textF_len]; exact Nat.le_refl _)], by rw [List.drop_append_of_le_length (by rw [textF_len]; exact Nat.le_refl _), List.drop_of_length_le (by rw [textF_len]; exact Nat.le_refl _), List.nil_append]⟩

set_option maxHeartbeats 4000000 in
theorem CellHealth_true (x0 : Bytes) (x1 : Sl) {H : Heap} (_ : x0.length ≤ 140737488351232) (hx1 : Came [.int .i64] [] x1 H) : ∃ H', law30_CellHealth x0 x1 H = some ((true, ()), H') := by
  obtain ⟨rows0, hrow0, hrl, _, _⟩ := came_rows hx1
  have hcl := came_len hx1
  have hrow : Row H 1 x1 (intC (rows0.map fun x => x.1)) := by rw [rows_int] at hrow0; exact hrow0
  obtain ⟨t0, ks, G, l1, r1, nd, klt, kl4, kG⟩ := noise_loop hrow (Nat.le_trans (Nat.le_of_eq (List.length_map ..)) (show rows0.length ≤ 9223372036854775807 by omega))
  have hmk := mk_bools (H := H ++ [Blk.cells [] .exact]) (n := 104) (by decide)
  have hl1 : (H ++ [Blk.cells [] .exact]).length = H.length + 1 := by simp
  rw [hl1] at hmk
  have hmk' : mkS (H ++ [Blk.cells [] .exact]) 1 [.bool false] 104 104 = some (⟨some (H.length + 1, 0), 104, 104⟩, (H ++ [Blk.cells [] .exact]) ++ [Blk.cells (arrC 104 fun _ => [.bool false]) .exact]) := hmk
  unfold law30_CellHealth
  have hgeo : law30_geometry = some ((8, 4, 64, ()), ()) := rfl
  simp only [hmk', bind_some, l1, hgeo]
  obtain ⟨N, hN⟩ : ∃ N, N = ks.map mk129 := ⟨_, rfl⟩
  have hN1 : ∀ n ∈ N, n.1 = 1 ∧ n.2.2.2.2.1 = 129 := fun n hn => by
    rw [hN] at hn
    obtain ⟨k, _, rfl⟩ := List.mem_map.1 hn
    exact ⟨rfl, rfl⟩
  obtain ⟨H1, q, e1, e2, _, hq, w0, _⟩ := cnew_std (f := (⟨none, 0, 0⟩, ⟨none, 0, 0⟩, ⟨none, 0, 0⟩, ())) (seed := 5) (fails := []) (bad := []) (N := N) G (Row.ni _ _ _) (Row.ni _ _ _) (Row.ni _ _ _) (by rw [hN]; exact r1) (by decide) (by decide) (by rw [hN, List.length_map]; omega) (by decide) (fun n hn => by rw [(hN1 n hn).2]; decide)
  obtain ⟨H2, p1, _, p2, p3⟩ := wrote (b := 1) (p := 0) e2 hq w0 (by decide) calm_new (by decide) (by decide) (fresh_used fun _ => rfl) (textF_len x0 64) (textF_len x0 32)
  have hX0 : (fun k => if k = ((1 * 4 + 0 : Nat) : Int) then none else (Ce.new [] [] 5 N).X k) = fun _ => (none : Option Bytes) := by funext k; split <;> rfl
  rw [hX0] at p2
  obtain ⟨T, hT⟩ : ∃ T, T = textF x0 64 ++ textF x0 32 := ⟨_, rfl⟩
  have hTl : T.length = 96 := by rw [hT, List.length_append, textF_len, textF_len]
  obtain ⟨hT1, hT2⟩ := two_parts x0
  rw [← hT] at p2 p3 hT1 hT2
  obtain ⟨t1, ht1⟩ : ∃ t : Ce, t = { Ce.new [] [] 5 N with s := (Ce.new [] [] 5 N).s.acted.lay q.a 1 0 (keptF q ((Ce.new [] [] 5 N).seed + ((1 * 4 + 0 : Nat) : Int)) T), X := fun _ => none } := ⟨_, rfl⟩
  rw [← ht1] at p2
  have hs1 : t1.s = (Nd.new [] [] []).acted.lay q.a 1 0 (keptF q 9 T) := by rw [ht1]; rfl
  have hwf1 : Wf q.a t1.s (0 + 1) := by rw [hs1]; exact p3
  have hc1 : Calm t1.s := by rw [hs1]; exact calm_new.acted.lay _ _ _
  have haS := e2.aS
  rw [hq.R] at haS
  have hkl : (keptF q 9 T).length = 104 := by rw [kept_len (by rw [hTl, hq.2.2.1]) 9, hq.R]
  have hrd1 : t1.s.read q.a 1 0 = keptF q 9 T := by rw [hs1, read_lay (by omega), if_pos ⟨rfl, rfl⟩]
  have h64 : law30_text x0 64 = some (textF x0 64, ()) := text_eq _ 64 (by decide)
  have h32 : law30_text x0 32 = some (textF x0 32, ()) := text_eq _ 32 (by decide)
  have p1' : cell_Cells_Program (some (q.c, 0)) 1 0 (textF x0 64) (textF x0 32) H1 = some ((0, ()), H2) := p1
  simp only [e1, bind_some, awake30, Bool.not_true, cond_f, decide_true, h64, h32, p1']
  obtain ⟨H3, n1, n2, _⟩ := nearly_eq (b := 1) (p := 0) p2 hwf1 (by rw [hq.1]; decide) (by rw [hq.2.1]; decide) hc1.off
  have n1' : law30_nearly (some (q.c, 0)) 1 0 H2 = some ((decide (zbs (t1.s.read q.a 1 0) ≤ 40 ∧ zbs (t1.s.read q.a 1 0) ≠ 0), ()), H3) := n1
  rw [hrd1] at n1'
  simp only [n1', bind_some]
  by_cases c1 : zbs (keptF q 9 T) ≤ 40 ∧ zbs (keptF q 9 T) ≠ 0
  · rw [decide_eq_true c1]; exact ⟨_, rfl⟩
  rw [decide_eq_false c1]
  have hcat : catS (textF x0 64) (textF x0 32) = some T := by rw [cat_of (by rw [textF_len, textF_len]; decide), hT]
  simp only [cond_f, hcat, bind_some, erased_eq T 0 (by omega)]
  by_cases c2 : zbs T = 0
  · rw [decide_eq_true (show ((zbs T : Nat) : Int) ≤ 0 by omega)]; exact ⟨_, rfl⟩
  rw [decide_eq_false (show ¬ ((zbs T : Nat) : Int) ≤ 0 by omega)]
  have big : ∀ seed, ¬ (zbs (keptF q seed T) ≤ 40 ∧ zbs (keptF q seed T) ≠ 0) → keptF q seed T = rawF T 1 8 seed ∧ 40 < zbs (rawF T 1 8 seed) := fun seed hh => by
    have hk := kept_std hq c2 seed
    refine ⟨hk, ?_⟩
    rw [hk] at hh
    have hne : zbs (rawF T 1 8 seed) ≠ 0 := fun h0 => by
      have := zbs_zero h0
      rw [rawF_len, hTl] at this
      exact raw_ne hTl seed this
    omega
  obtain ⟨hk9, hz9⟩ := big 9 c1
  have hseed1 : t1.seed + ((1 * 4 + 0 : Nat) : Int) = 9 := by rw [ht1]; rfl
  have hN1' : t1.N = N := by rw [ht1]; rfl
  have hr1 : t1.reads = 0 := by rw [ht1]; rfl
  obtain ⟨o, ho1, ho2, ho3⟩ := turn_129 hq ks none 0 klt nd (Fl.non _ _ _)
  rw [Nat.zero_add] at ho2
  have hX1 : t1.X = fun k => if k = 4 then none else none := by rw [ht1]; funext k; split <;> rfl
  have htX : turnX q (t1.reads + 1) t1.X t1.N = fun k => if k = 4 then o else none := by rw [hr1, hX1, hN1', hN]; exact ho1
  have hcn : cN 104 (fun k => fxX o k != 0) = ks.length := by
    rw [← cN_list nd klt]
    refine cN_congr fun k _ => ?_
    rw [ho3]
    by_cases e : k ∈ ks
    · rw [if_pos e, List.contains_iff_mem.2 e, show fxX none k = 0 from rfl]; rfl
    · rw [if_neg e]
      have : ks.contains k = false := by cases hh : ks.contains k with
        | false => rfl
        | true => exact absurd (List.contains_iff_mem.1 hh) e
      rw [this]; rfl
  obtain ⟨H4, a1, _, a2⟩ := read_text (b := 1) (p := 0) n2 hq hwf1 hc1 (by rw [hr1]; decide) (by decide) (by decide) hTl (by rw [hrd1, hseed1]; exact hk9) (by rw [htX]; rfl) ho2 kl4 (by rw [hseed1]; exact hz9)
  rw [hcn] at a2
  have a1' : cell_Cells_Read (some (q.c, 0)) 1 0 H3 = some ((T.take 64, T.drop 64, 0, ()), H4) := a1
  rw [hT1, hT2] at a1'
  simp only [a1', cond_f, bind_some, decide_true, Bool.not_true]
  obtain ⟨t2, ht2⟩ : ∃ t : Ce, t = { t1.turned q with hw := ((ks.length : Nat) : Int), wk := decide (2 ≤ ((ks.length : Nat) : Int)) } := ⟨_, rfl⟩
  rw [← ht2] at a2
  obtain ⟨H5, b1, b2, _⟩ := ce_health a2
  have hhw2 : t2.hw = (ks.length : Int) ∧ t2.wk = decide (2 ≤ (ks.length : Int)) := by rw [ht2]; exact ⟨rfl, rfl⟩
  rw [hhw2.1, hhw2.2] at b1
  simp only [b1, bind_some, decide_true, beq_self_eq_true, Bool.and_true, Bool.not_true, cond_f]
  -- written anew
  have hs2 : t2.s = t1.s := by rw [ht2]; rfl
  have hX2 : t2.X = fun k => if k = 4 then o else none := by rw [ht2]; exact htX
  have hN2 : t2.N = N := by rw [ht2]; exact hN1'
  have hr2 : t2.reads = 1 := by rw [ht2]; show t1.reads + 1 = 1; rw [hr1]; rfl
  have hsd2 : t2.seed = 5 := by rw [ht2]; show t1.seed = 5; rw [ht1]; rfl
  have stay : ∀ (r : Int) (X : Int → Option Bytes), r ≠ 1 → turnX q r X N = X := fun r X hr => turn_stay fun n hn h => hr (by rw [← h]; exact (hN1 n hn).1)
  have hX2' : turnX q (t2.reads + 1) t2.X t2.N = fun k => if k = 4 then o else none := by rw [hr2, hN2, stay _ _ (by decide), hX2]
  obtain ⟨H6, d1, _, d2⟩ := read_text (b := 1) (p := 0) b2 hq (by rw [hs2]; exact hwf1) (by rw [hs2]; exact hc1) (by rw [hr2]; decide) (by decide) (by decide) hTl (by rw [hs2, hrd1, hsd2]; exact hk9) (by rw [hX2']; rfl) ho2 kl4 (by rw [hsd2]; exact hz9)
  have d1' : cell_Cells_Read (some (q.c, 0)) 1 0 H5 = some ((T.take 64, T.drop 64, 0, ()), H6) := d1
  rw [hT1, hT2] at d1'
  obtain ⟨t3, ht3⟩ : ∃ t : Ce, t = { t2.turned q with hw := ((cN 104 (fun k => fxX o k != 0) : Nat) : Int), wk := decide (2 ≤ ((cN 104 (fun k => fxX o k != 0) : Nat) : Int)) } := ⟨_, rfl⟩
  rw [← ht3] at d2
  have hs3 : t3.s = t1.s := by rw [ht3]; exact hs2
  have hX3 : t3.X = fun k => if k = 4 then o else none := by rw [ht3]; exact hX2'
  have hN3 : t3.N = N := by rw [ht3]; exact hN2
  have hr3 : t3.reads = 2 := by rw [ht3]; show t2.reads + 1 = 2; rw [hr2]; rfl
  have hsd3 : t3.seed = 5 := by rw [ht3]; exact hsd2
  obtain ⟨H7, f1, _, f2, f3⟩ := wrote (b := 2) (p := 0) d2 hq (by rw [hs3]; exact hwf1) (by decide) (by rw [hs3]; exact hc1) (by decide) (by decide) (fresh_used fun k => by rw [hs3, hs1, pages_lay (by decide)]; rfl) (textF_len x0 64) (textF_len x0 32)
  rw [← hT, hsd3] at f2 f3
  have f1' : cell_Cells_Program (some (q.c, 0)) 2 0 (textF x0 64) (textF x0 32) H6 = some ((0, ()), H7) := f1
  obtain ⟨t4, ht4⟩ : ∃ t : Ce, t = { t3 with s := t3.s.acted.lay q.a 2 0 (keptF q (5 + ((2 * 4 + 0 : Nat) : Int)) T), X := fun k => if k = ((2 * 4 + 0 : Nat) : Int) then none else t3.X k } := ⟨_, rfl⟩
  replace f2 : CeAt H7 q t4 := by rw [ht4, ← hsd3]; rw [← hsd3] at f2; exact f2
  have hs4 : t4.s = t1.s.acted.lay q.a 2 0 (keptF q 13 T) := by rw [ht4, ← hs3]; rfl
  have hwf4 : Wf q.a t4.s (0 + 1 + 1) := by rw [hs4, ← hs3]; exact f3
  have hc4 : Calm t4.s := by rw [hs4]; exact hc1.acted.lay _ _ _
  have hX4 : t4.X = fun k => if k = 8 then none else if k = 4 then o else none := by rw [ht4]; funext k; rw [hX3]; rfl
  have hN4 : t4.N = N := by rw [ht4]; exact hN3
  have hr4 : t4.reads = 2 := by rw [ht4]; exact hr3
  have hsd4 : t4.seed = 5 := by rw [ht4]; exact hsd3
  have hkl13 : (keptF q 13 T).length = 104 := by rw [kept_len (by rw [hTl, hq.2.2.1]) 13, hq.R]
  have hX4' : turnX q (t4.reads + 1) t4.X t4.N = t4.X := by rw [hr4, hN4, stay _ _ (by decide)]
  have hrd4 : t4.s.read q.a 1 1 = List.replicate 104 255 := by
    rw [hs4, read_lay (by omega), if_neg (by decide)]
    show t1.s.read q.a 1 1 = _
    rw [hs1, read_lay (by omega), if_neg (by decide)]
    show fullP q.a = _
    unfold fullP
    rw [haS]
  have hmx : mixX (t4.s.read q.a 1 1) (turnX q (t4.reads + 1) t4.X t4.N ((1 * 4 + 1 : Nat) : Int)) = List.replicate 104 255 := by
    rw [hX4', hX4, hrd4]; rfl
  obtain ⟨H8, g1, _, g2⟩ := read_blank (b := 1) (p := 1) f2 hq hwf4 hc4 (by rw [hr4]; decide) (by decide) (by decide) (by rw [hmx, zbs_ones]; decide)
  have g1' : cell_Cells_Read (some (q.c, 0)) 1 1 H7 = some ((List.replicate 64 255, List.replicate 32 255, 0, ()), H8) := g1
  have hcat2 : catS (List.replicate 64 (255 : UInt8)) (List.replicate 32 255) = some (List.replicate 96 255) := by
    rw [cat_of (by simp), List.replicate_append_replicate]
  have hrenew : cell_Cells_Renew (some (q.c, 0)) 1 2 H5 = some ((1, 0, ()), H8) := by
    have l2 : loopW (cell_Cells_Renew.s1 (some (q.c, 0)) 1 2 (q.a.P : Int)) (0, 0, ()) H5 = some (.inr (1, 0, ()), H8) := by
      refine loopW_eq (n := 2) ?_
      have st1 : cell_Cells_Renew.s1 (some (q.c, 0)) 1 2 (q.a.P : Int) (0, 0, ()) H5 = some (.inl (1, 1, ()), H7) := by
        unfold cell_Cells_Renew.s1
        simp only [decide_eq_true (show (0 : Int) < (q.a.P : Int) by rw [hq.2.1]; decide), cond_t, d1', bind_some, decide_true, Bool.not_true, cond_f, hcat, erased_eq T 0 (by omega), decide_eq_false (show ¬ ((zbs T : Nat) : Int) ≤ 0 by omega), f1']
        rfl
      have st2 : cell_Cells_Renew.s1 (some (q.c, 0)) 1 2 (q.a.P : Int) (1, 1, ()) H7 = some (.inr (.inr (1, 0, ())), H8) := by
        unfold cell_Cells_Renew.s1
        simp only [decide_eq_true (show (1 : Int) < (q.a.P : Int) by rw [hq.2.1]; decide), cond_t, g1', bind_some, decide_true, Bool.not_true, cond_f, hcat2, erased_eq (List.replicate 96 255) 0 (by simp), zbs_ones]
        rfl
      rw [iter, st1]
      show iter _ 1 _ H7 = _
      rw [iter, st2]
      rfl
    unfold cell_Cells_Renew
    simp only [Option.isNone_some, cond_f, bind_some, Nat.zero_add, b2.rP, l2]
    rfl
  simp only [hrenew, bind_some, decide_true, Bool.not_true, cond_f]
  obtain ⟨t5, ht5⟩ : ∃ t : Ce, t = { t4.turned q with wk := !decide (zbs (mixX (t4.s.read q.a 1 1) (turnX q (t4.reads + 1) t4.X t4.N ((1 * 4 + 1 : Nat) : Int))) = 0) } := ⟨_, rfl⟩
  rw [← ht5] at g2
  have hs5 : t5.s = t4.s := by rw [ht5]; rfl
  have hX5 : t5.X = t4.X := by rw [ht5]; exact hX4'
  have hN5 : t5.N = N := by rw [ht5]; exact hN4
  have hr5 : t5.reads = 3 := by rw [ht5]; show t4.reads + 1 = 3; rw [hr4]; rfl
  have hsd5 : t5.seed = 5 := by rw [ht5]; exact hsd4
  have hrd5 : t5.s.read q.a 2 0 = keptF q 13 T := by rw [hs5, hs4, read_lay (by omega), if_pos ⟨rfl, rfl⟩]
  obtain ⟨H9, m1, m2, _⟩ := nearly_eq (b := 2) (p := 0) g2 (by rw [hs5]; exact hwf4) (by rw [hq.1]; decide) (by rw [hq.2.1]; decide) (by rw [hs5]; exact hc4.off)
  have m1' : law30_nearly (some (q.c, 0)) 2 0 H8 = some ((decide (zbs (t5.s.read q.a 2 0) ≤ 40 ∧ zbs (t5.s.read q.a 2 0) ≠ 0), ()), H9) := m1
  rw [hrd5] at m1'
  simp only [m1', bind_some]
  by_cases c3 : zbs (keptF q 13 T) ≤ 40 ∧ zbs (keptF q 13 T) ≠ 0
  · rw [decide_eq_true c3]; exact ⟨_, rfl⟩
  rw [decide_eq_false c3]
  obtain ⟨hk13, hz13⟩ := big 13 c3
  have hX5' : turnX q (t5.reads + 1) t5.X t5.N ((2 * 4 + 0 : Nat) : Int) = none := by rw [hr5, hN5, stay _ _ (by decide), hX5, hX4]; rfl
  obtain ⟨H10, u1, _, u2⟩ := read_text (b := 2) (p := 0) m2 hq (by rw [hs5]; exact hwf4) (by rw [hs5]; exact hc4) (by rw [hr5]; decide) (by decide) (by decide) hTl (by rw [hrd5, hsd5]; exact hk13) hX5' (Fl.non 104 2 0) (by decide) (by rw [hsd5]; exact hz13)
  have u1' : cell_Cells_Read (some (q.c, 0)) 2 0 H9 = some ((T.take 64, T.drop 64, 0, ()), H10) := u1
  rw [hT1, hT2] at u1'
  have hcn0 : cN 104 (fun k => fxX none k != 0) = 0 := by decide
  rw [hcn0] at u2
  obtain ⟨H11, v1, v2, _⟩ := ce_health u2
  have v1' : cell_Cells_Health (some (q.c, 0)) H10 = some (((0, false, ()), ()), H11) := v1
  simp only [u1', cond_f, bind_some, decide_true, cond_t, v1', beq_self_eq_true, Bool.and_true]
  exact ⟨_, rfl⟩
end Ev
