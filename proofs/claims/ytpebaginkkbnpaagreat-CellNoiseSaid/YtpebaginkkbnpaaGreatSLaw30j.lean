/- CellNoise: A page of which more bytes are others than can be made right is told as such, or is another right one; an erased one of which a few bits turned is erased. -/
import Derived.Test.YtpebaginkkbnpaaGreatSLaw30m
namespace Ev
open Go (IntKind)

set_option maxHeartbeats 4000000 in
theorem CellNoise_true (x0 : Bytes) (x1 : Int) (_ : x0.length ≤ 140737488351232) (_ : wfC (.int .i64 x1)) : law30_CellNoise x0 x1 = some (true, ()) := by
  obtain ⟨n, hn, hbit⟩ := low_of x1 6 (by decide)
  have hbit' : bitsI .and .i64 x1 63 = (n : Int) := hbit
  have hn64 : n < 64 := hn
  have hm : IntKind.wrap .i64 (5 + (bitsI .and .i64 x1 63)) = ((5 + n : Nat) : Int) := by rw [hbit', wrap_i64 (by omega) (by omega)]; omega
  obtain ⟨m, hmm⟩ : ∃ m, m = 5 + n := ⟨_, rfl⟩
  rw [← hmm] at hm
  obtain ⟨ta, Ga, l1, ga⟩ := noise1 hm (by omega)
  obtain ⟨tb, Gb, l2, gb⟩ := noise2 ga (by rw [List.length_map, List.length_range]; omega)
  obtain ⟨N, hN⟩ : ∃ N, N = noiN m := ⟨_, rfl⟩
  have gb' : GrowN [] Gb 5 tb (noiC N) := by rw [hN]; exact gb
  unfold law30_CellNoise law30_CellNoise.on
  have hgeo : law30_geometry = some ((8, 4, 64, ()), ()) := rfl
  simp only [List.nil_append, List.length_nil, l1, bind_some, l2, hgeo]
  have hNl : N.length = m + 16 := by
    rw [hN]
    unfold noiN ksB
    rw [List.length_append, List.length_map, List.length_range, List.length_map, List.length_map, List.length_range]
  have hNb : ∀ x ∈ N, 0 ≤ x.2.2.2.2.1 ∧ x.2.2.2.2.1 < 256 := fun x hx => by
    rw [hN] at hx
    unfold noiN at hx
    rcases List.mem_append.1 hx with hx | hx
    · obtain ⟨k, _, rfl⟩ := List.mem_map.1 hx
      have := (vA k).toNat_lt
      show (0 : Int) ≤ (((vA k).toNat : Nat) : Int) ∧ (((vA k).toNat : Nat) : Int) < 256
      omega
    · obtain ⟨k, _, rfl⟩ := List.mem_map.1 hx
      show (0 : Int) ≤ 4 ∧ (4 : Int) < 256
      decide
  obtain ⟨H1, q, e1, e2, _, hq, w0, _⟩ := cnew_std (f := (⟨none, 0, 0⟩, ⟨none, 0, 0⟩, ⟨none, 0, 0⟩, ())) (seed := 5) (fails := []) (bad := []) (N := N) Gb (Row.ni _ _ _) (Row.ni _ _ _) (Row.ni _ _ _) gb'.row (by decide) (by decide) (by omega) (by decide) hNb
  obtain ⟨H2, p1, _, p2, p3⟩ := wrote (b := 1) (p := 0) e2 hq w0 (by decide) calm_new (by decide) (by decide) (fresh_used fun _ => rfl) (textF_len x0 64) (textF_len x0 32)
  have hX0 : (fun k => if k = ((1 * 4 + 0 : Nat) : Int) then none else (Ce.new [] [] 5 N).X k) = fun _ => (none : Option Bytes) := by funext k; split <;> rfl
  rw [hX0] at p2
  obtain ⟨T, hT⟩ : ∃ T, T = textF x0 64 ++ textF x0 32 := ⟨_, rfl⟩
  have hTl : T.length = 96 := by rw [hT, List.length_append, textF_len, textF_len]
  rw [← hT] at p2 p3
  obtain ⟨t1, ht1⟩ : ∃ t : Ce, t = { Ce.new [] [] 5 N with s := (Ce.new [] [] 5 N).s.acted.lay q.a 1 0 (keptF q ((Ce.new [] [] 5 N).seed + ((1 * 4 + 0 : Nat) : Int)) T), X := fun _ => none } := ⟨_, rfl⟩
  rw [← ht1] at p2
  have hs1 : t1.s = (Nd.new [] [] []).acted.lay q.a 1 0 (keptF q 9 T) := by rw [ht1]; rfl
  have hwf1 : Wf q.a t1.s (0 + 1) := by rw [hs1]; exact p3
  have hc1 : Calm t1.s := by rw [hs1]; exact calm_new.acted.lay _ _ _
  have haS := e2.aS
  rw [hq.R] at haS
  have hkl : (keptF q 9 T).length = 104 := by rw [kept_len (by rw [hTl, hq.2.2.1]) 9, hq.R]
  have hrd1 : t1.s.read q.a 1 0 = keptF q 9 T := by rw [hs1, read_lay (by omega), if_pos ⟨rfl, rfl⟩]
  have h64 : law30_text x0 64 = some (textF x0 64, ()) := text_eq _ 64 (by decide)
  have h32 : law30_text x0 32 = some (textF x0 32, ()) := text_eq _ 32 (by decide)
  have h00 : law30_text [] 0 = some ([], ()) := text_eq [] 0 (by decide)
  have hcat : catS (textF x0 64) (textF x0 32) = some T := by rw [cat_of (by rw [textF_len, textF_len]; decide), hT]
  have p1' : cell_Cells_Program (some (q.c, 0)) 1 0 (textF x0 64) (textF x0 32) H1 = some ((0, ()), H2) := p1
  simp only [e1, bind_some, awake30, Bool.not_true, cond_f, decide_true, h64, h32, p1', h00]
  -- what turns
  have hseed1 : t1.seed = 5 := by rw [ht1]; rfl
  have hN1' : t1.N = N := by rw [ht1]; rfl
  have hr1 : t1.reads = 0 := by rw [ht1]; rfl
  have stayB : ∀ (X : Int → Option Bytes), turnX q 1 X (ksB.map (mkN 2 3 1 fun _ => 4)) = X := fun X => turn_stay fun x hx => by
    obtain ⟨k, _, rfl⟩ := List.mem_map.1 hx
    show (2 : Int) ≠ 1
    decide
  have stayA : ∀ (X : Int → Option Bytes), turnX q 2 X ((List.range m).map (mkN 1 1 0 vA)) = X := fun X => turn_stay fun x hx => by
    obtain ⟨k, _, rfl⟩ := List.mem_map.1 hx
    show (1 : Int) ≠ 2
    decide
  obtain ⟨o1, oa1, oa2, oa3⟩ := turn_list hq (r := 1) (b := 1) (p := 0) (by decide) (by decide) vA (fun _ => none) (List.range m) none (fun k hk => by have := List.mem_range.1 hk; omega) List.nodup_range (fun x hx => by cases hx)
  have hX1 : t1.X = fun k => if k = 1 * 4 + 0 then none else none := by rw [ht1]; funext k; split <;> rfl
  have htX : turnX q (t1.reads + 1) t1.X t1.N = fun k => if k = 1 * 4 + 0 then o1 else none := by
    rw [hr1, hX1, hN1', hN]
    unfold noiN
    show turnX q 1 _ (_ ++ _) = _
    rw [turn_app, oa1, stayB]
  have he1 : t1.s.inE q.a 1 0 = 0 := by
    unfold Nd.inE
    rw [if_neg (by rw [hc1.off]; decide), if_neg (by rw [hq.1, hq.2.1]; decide)]
  have hnum : q.num 1 0 = 4 := by rw [num_std hq]; rfl
  have hraw : rawX q (t1.turned q) 1 0 = mixX (keptF q 9 T) o1 := by
    unfold rawX
    show mixX (t1.s.read q.a 1 0) (turnX q (t1.reads + 1) t1.X t1.N (q.num ((1 : Nat) : Int) ((0 : Nat) : Int))) = _
    rw [hrd1, htX, show q.num ((1 : Nat) : Int) ((0 : Nat) : Int) = 4 from hnum]
    rfl
  have hml := mixX_len hkl oa2
  obtain ⟨o, od, oc⟩ := dec_near hq p2.sh 9 hml
  have hol : o.2.2 = 0 → o.1.length = q.S + 32 := fun h0 => by
    rcases oc with oc | ⟨c, c1, _, _, _, c5⟩
    · rw [oc] at h0; exact absurd h0 (by decide)
    · rw [c5, mixF_len, maskF_len, List.length_take, hq.2.2.1]; omega
  obtain ⟨H3, r1, r2, _⟩ := ce_read p2 hwf1 (by rw [hr1]; decide) 1 0 o (fun _ _ => ⟨by rw [hseed1, hnum, show (Int.toNat 1) = 1 from rfl, show (Int.toNat 0) = 0 from rfl, hraw]; exact od, hol⟩)
  obtain ⟨t2, ht2⟩ : ∃ t, t = (readC q t1 1 0 o).2 := ⟨_, rfl⟩
  rw [← ht2] at r2
  obtain ⟨hs2, hsd2, hN2⟩ : t2.s = t1.s ∧ t2.seed = t1.seed ∧ t2.N = t1.N := by rw [ht2]; exact readC_s q t1 1 0 o
  obtain ⟨hX2, hr2⟩ : t2.X = (t1.turned q).X ∧ t2.reads = t1.reads + 1 := by rw [ht2]; exact readC_X o he1
  replace hX2 : t2.X = fun k => if k = 1 * 4 + 0 then o1 else none := by rw [hX2]; exact htX
  rw [hr1] at hr2
  -- the erased page
  obtain ⟨o2, ob1, ob2, ob3⟩ := turn_list hq (r := 2) (b := 3) (p := 1) (by decide) (by decide) (fun _ => 4) t2.X ksB none ksB_ok.1 ksB_ok.2 (fun x hx => by cases hx)
  have hX2b : t2.X = fun k => if k = 3 * 4 + 1 then none else t2.X k := by
    funext k
    by_cases e : k = 3 * 4 + 1
    · rw [if_pos e, hX2, e]; rfl
    · rw [if_neg e]
  have htX2 : turnX q (t2.reads + 1) t2.X t2.N = fun k => if k = 3 * 4 + 1 then o2 else t2.X k := by
    rw [hr2, hN2, hN1', hN]
    unfold noiN
    show turnX q 2 _ (_ ++ _) = _
    rw [turn_app, stayA]
    rw [← ob1]
    congr 1
  have hrd2 : t2.s.read q.a 3 1 = List.replicate 104 255 := by
    rw [hs2, hs1, read_lay (by omega), if_neg (by decide)]
    show fullP q.a = _
    unfold fullP
    rw [haS]
  have hz2 : zbs (mixX (t2.s.read q.a 3 1) (turnX q (t2.reads + 1) t2.X t2.N ((3 * 4 + 1 : Nat) : Int))) = 16 := by
    rw [htX2, hrd2]
    show zbs (mixX (List.replicate 104 255) o2) = 16
    rw [zbs_mixX (n := 104) (by simp) ob2, ← ksB_sum]
    refine sumN_congr fun k hk => ?_
    rw [ob3]
    have : co (List.replicate 104 (255 : UInt8)) k = 255 := by
      unfold co
      rw [List.getD_eq_getElem?_getD, List.getElem?_replicate, if_pos hk]; rfl
    rw [this]
    by_cases e : k ∈ ksB
    · rw [if_pos e, if_pos e, show fxX none k = 0 from rfl, UInt8.zero_xor]
    · rw [if_neg e, if_neg e, show fxX none k = 0 from rfl]
  obtain ⟨H4, s1, _, s2⟩ := read_blank (b := 3) (p := 1) r2 hq (by rw [hs2]; exact hwf1) (by rw [hs2]; exact hc1) (by rw [hr2]; decide) (by decide) (by decide) (by rw [hz2]; decide)
  rw [hz2] at s2
  have s1' : cell_Cells_Read (some (q.c, 0)) 3 1 H3 = some ((List.replicate 64 255, List.replicate 32 255, 0, ()), H4) := s1
  obtain ⟨t3, ht3⟩ : ∃ t : Ce, t = { t2.turned q with wk := !decide (16 = 0) } := ⟨_, rfl⟩
  rw [← ht3] at s2
  have hs3 : t3.s = t1.s := by rw [ht3]; exact hs2
  have hh3 : t3.hw = 0 ∧ t3.wk = true := by rw [ht3]; exact ⟨rfl, rfl⟩
  obtain ⟨H5, n1, n2, _⟩ := nearly_eq (b := 1) (p := 0) s2 (by rw [hs3]; exact hwf1) (by rw [hq.1]; decide) (by rw [hq.2.1]; decide) (by rw [hs3]; exact hc1.off)
  have n1' : ∃ nb : Bool, law30_nearly (some (q.c, 0)) 1 0 H4 = some ((nb, ()), H5) := ⟨_, n1⟩
  obtain ⟨nb, n1'⟩ := n1'
  obtain ⟨H6, u1, _, _⟩ := ce_health s2
  obtain ⟨H7, v1, _, _⟩ := ce_health n2
  rw [hh3.1, hh3.2] at u1 v1
  simp only [r1, bind_some, s1', full64 H4]
  -- what the first read told
  have told : (∃ A B : Bytes, (readC q t1 1 0 o).1 = (A, B, 0, ()) ∧ A.length + B.length = 96 ∧ (A ++ B = T → zbs T = 0)) ∨ (readC q t1 1 0 o).1 = ([], [], 280, ()) := by
    unfold readC
    rw [if_neg (by simpa using he1), show (Int.toNat 1) = 1 from rfl, show (Int.toNat 0) = 0 from rfl, hraw]
    by_cases hz : zbs (mixX (keptF q 9 T) o1) ≤ 16
    · rw [if_pos hz]
      refine .inl ⟨_, _, rfl, by simp [hq.2.2.1], fun hh => ?_⟩
      rw [hq.2.2.1, List.replicate_append_replicate] at hh
      rw [← hh, zbs_ones]
    · rw [if_neg hz]
      rcases oc with oc | ⟨c, c1, c2, c3, c4, c5⟩
      · rw [oc]
        exact .inr rfl
      · rw [if_neg (by rw [c4]; decide)]
        have hl := hol c4
        refine .inl ⟨_, _, rfl, by have := hq.2.2.1; rw [List.length_take, List.length_drop]; omega, fun hh => ?_⟩
        rw [List.take_append_drop, c5] at hh
        by_cases hzT : zbs T = 0
        · exact hzT
        · exfalso
          have hce := begin_same c1 c2 hTl hh
          rw [kept_std hq hzT 9, ← hce] at c3
          have hcount : dfc (mixX c o1) c = m := by
            unfold dfc
            rw [mixX_len c1 oa2]
            have : cN 104 (fun k => co (mixX c o1) k != co c k) = m := by
              rw [← List.length_range (n := m), ← cN_list (L := 104) (List.nodup_range (n := m)) (fun k hk => by have := List.mem_range.1 hk; omega)]
              refine cN_congr fun k hk => ?_
              rw [co_mixX c1 oa2, oa3]
              have h0 : fxX none k = 0 := rfl
              by_cases e : k ∈ List.range m
              · rw [if_pos e, List.contains_iff_mem.2 e, h0, UInt8.zero_xor]
                exact bne_iff_ne.2 fun hx => vA_ne k hk (xor_ne.1 hx)
              · rw [if_neg e, h0, UInt8.xor_zero]
                have : (List.range m).contains k = false := by
                  cases hh : (List.range m).contains k with
                  | false => rfl
                  | true => exact absurd (List.contains_iff_mem.1 hh) e
                rw [this]; simp
            exact this
          omega
  have fin : ∀ (p : (Bool × Unit) × Heap), p = ((true, ()), H4) ∨ p = ((true, ()), H5) → (cond p.1.1 ((cell_Cells_Health (some (q.c, 0)) p.2).bind fun (r70 : ((Int × Bool × Unit) × Unit) × Heap) => some (((decide (r70.1.1.1 = 0)) && ((r70.1.1.2.1 == true) && true)), ())) (some (false, ())) : Option (Bool × Unit)) = some (true, ()) := by
    rintro p (rfl | rfl)
    · simp only [cond_t, u1, bind_some]; rfl
    · simp only [cond_t, v1, bind_some]; rfl
  rcases told with ⟨A, B, hAB, hl, hz⟩ | h280
  · rw [hAB]
    have hcAB : catS A B = some (A ++ B) := cat_of (by omega)
    simp only [decide_eq_false (show ¬ (0 : Int) = 280 by decide), cond_f, decide_true, cond_t, hcAB, bind_some, hcat, n1', erased_eq T 0 (by omega)]
    by_cases hne : A ++ B = T
    · rw [decide_eq_true hne]
      simp only [Bool.not_true, cond_f]
      cases nb with
      | true => exact fin _ (.inr rfl)
      | false =>
        rw [decide_eq_true (show ((zbs T : Nat) : Int) ≤ 0 by have := hz hne; omega)]
        exact fin _ (.inr rfl)
    · rw [decide_eq_false hne]
      exact fin _ (.inl rfl)
  · rw [h280]
    simp only [decide_true, cond_t]
    exact fin _ (.inl rfl)
end Ev
