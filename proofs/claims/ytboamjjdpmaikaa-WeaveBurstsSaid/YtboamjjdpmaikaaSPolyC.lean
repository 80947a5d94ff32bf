/- Polynomials: products of two, slopes, what is left of one by another one. -/
import Derived.Test.YtboamjjdpmaikaaSPolyB
namespace Ev
open Go (IntKind)

section
variable {H : Heap} {s s2 : Sl} {p q : Bytes}
theorem mul_eq (h : PAt H s p) (h2 : PAt H s2 q) (hl : p.length + q.length < 1000000) : ∃ t G, gf_Poly_Mul s s2 H = some ((t, ()), G) ∧ PAt G t (trim (pmul p q)) ∧ Keep (fun _ => False) H G := by
  have hlen := h.len
  have hlen2 := h2.len
  generalize hn : p.length + q.length = n
  let H1 : Heap := H ++ [.cells (arrC n fun _ => [.int .u8 (un 0)]) .exact]
  have hm : IntKind.wrap .i64 ((s.len : Int) + (s2.len : Int)) = (n : Int) := by rw [wrap_i64 (by omega) (by omega)]; omega
  have mk : mkS H 1 [.int .u8 0] (n : Int) (n : Int) = some (⟨some (H.length, 0), n, n⟩, H1) := mk_bytes (by omega)
  have b0 : BAt H1 H.length n (fun _ => 0) := app_last
  obtain ⟨u, G, l1, g1, g2⟩ := loop_rise (step := gf_Poly_Mul.s2 s s2 (⟨some (H.length, 0), n, n⟩, H1)) p.length (fun i y G => y = ((i : Int), ()) ∧ BAt G H.length n (cv p q i) ∧ Keep (fun j => j = H.length) H G) (fun _ G => BAt G H.length n (cv p q p.length) ∧ Keep (fun j => j = H.length) H G)
    (by
      rintro i _ G hi ⟨rfl, f1, f2⟩
      refine .inl ?_
      obtain ⟨b, o, a1, a2, _⟩ := (h.keep (keep_one f2)).byte hi
      obtain ⟨u2, G2, m1, m2, m3⟩ := loop_rise (step := gf_Poly_Mul.s1 s2 (⟨some (H.length, 0), n, n⟩, H1) ((i : Int), ()) (un (co p i))) q.length
        (fun j y R => y = ((j : Int), ()) ∧ BAt R H.length n (fun k => cv p q i k ^^^ (if i ≤ k ∧ k < i + j then gm (co p i) (co q (k - i)) else 0)) ∧ Keep (fun j => j = H.length) H R) (fun _ R => BAt R H.length n (cv p q (i + 1)) ∧ Keep (fun j => j = H.length) H R)
        (by
          rintro j _ R hj ⟨rfl, r1, r2⟩
          refine .inl ?_
          obtain ⟨b', o', c1, c2, _⟩ := (h2.keep (keep_one r2)).byte hj
          have hij : IntKind.wrap .i64 ((i : Int) + (j : Int)) = ((i + j : Nat) : Int) := by rw [wrap_i64 (by omega) (by omega)]; omega
          have hlt : i + j < n := by omega
          have r3 := r1.get hlt
          rw [if_neg (by omega), UInt8.xor_zero] at r3
          obtain ⟨R2, d1, d2, d3⟩ := r1.set hlt (cv p q i (i + j) ^^^ gm (co p i) (co q j))
          refine ⟨_, R2, ?_, rfl, d2.congr fun k hk => ?_, r2.trans d3⟩
          · unfold gf_Poly_Mul.s1
            simp only [decide_eq_true (show (j : Int) < (s2.len : Int) by omega), cond_t, c1, bind_some, c2, hij, BAt.at hlt, r3, gf_Mul_eq, un_xor, d1, wrap_succ (show j < 9223372036854775807 by omega)]
          · by_cases e : k = i + j
            · subst e
              rw [if_pos rfl, if_pos ⟨by omega, by omega⟩, Nat.add_sub_cancel_left]
            · rw [if_neg e]
              by_cases h1 : i ≤ k ∧ k < i + j
              · rw [if_pos h1, if_pos ⟨h1.1, by omega⟩]
              · rw [if_neg h1, if_neg (by omega)])
        (by
          rintro _ R ⟨rfl, r1, r2⟩
          refine ⟨(), R, ?_, r1.congr fun k hk => ?_, r2⟩
          · unfold gf_Poly_Mul.s1
            simp only [decide_eq_false (show ¬ ((q.length : Nat) : Int) < (s2.len : Int) by omega), cond_f]
          · rw [cv]
            congr 1
            by_cases h1 : i ≤ k
            · rw [if_pos h1]
              by_cases h3 : k < i + q.length
              · rw [if_pos ⟨h1, h3⟩]
              · rw [if_neg (by omega), co_ge (p := q) (by omega), gm_zero]
            · rw [if_neg h1, if_neg (by omega)])
        (y := (((0 : Nat) : Int), ())) (H := G) ⟨rfl, f1.congr fun k _ => by rw [if_neg (by omega), UInt8.xor_zero], f2⟩
      have m1' : loopW (gf_Poly_Mul.s1 s2 (⟨some (H.length, 0), n, n⟩, H1) ((i : Int), ()) (un (co p i))) (0, ()) G = some (u2, G2) := m1
      refine ⟨_, G2, ?_, rfl, m2, m3⟩
      unfold gf_Poly_Mul.s2
      simp only [decide_eq_true (show (i : Int) < (s.len : Int) by omega), cond_t, a1, bind_some, a2, m1', wrap_succ (show i < 9223372036854775807 by omega)])
    (by
      rintro _ G ⟨rfl, f1, f2⟩
      refine ⟨(), G, ?_, f1, f2⟩
      unfold gf_Poly_Mul.s2
      simp only [decide_eq_false (show ¬ ((p.length : Nat) : Int) < (s.len : Int) by omega), cond_f])
    (y := (((0 : Nat) : Int), ())) (H := H1) ⟨rfl, b0, Keep.push _ _ _⟩
  have l1' : loopW (gf_Poly_Mul.s2 s s2 (⟨some (H.length, 0), n, n⟩, H1)) (0, ()) H1 = some (u, G) := l1
  obtain ⟨t, G2, e1, e2, e3⟩ := trim_eq g1.poly (by rw [pl_len]; omega)
  refine ⟨t, G2, ?_, ?_, (keep_one g2).trans e3⟩
  · unfold gf_Poly_Mul
    simp only [hm, mk, bind_some, l1', e1]
  · unfold pmul; rw [hn]; exact e2
/-- The derivative. -/
def pslope (p : Bytes) : Bytes := pl (p.length - 1) fun i => if (i + 1) % 2 = 1 then co p (i + 1) else 0
theorem slope_eq (h : PAt H s p) (hl : p.length < 1000000) : ∃ t G, gf_Poly_Slope s H = some ((t, ()), G) ∧ PAt G t (trim (pslope p)) ∧ Keep (fun _ => False) H G ∧ ∀ b o, t.p = some (b, o) → H.length ≤ b := by
  have hlen := h.len
  let F : Nat → UInt8 := fun i => if (i + 1) % 2 = 1 then co p (i + 1) else 0
  have hsn : ∀ i, cellsOf (pl (i + 1) F) = cellsOf (pl i F) ++ [.int .u8 (un (F i))] := fun i => by rw [cells_pl, cells_pl, arrC]
  obtain ⟨u, G, l1, t, rfl, g⟩ := loop_rise (step := gf_Poly_Slope.s1 s) (p.length - 1) (fun i y G => ∃ t, y = (t, ((i + 1 : Nat) : Int), ()) ∧ t.len = i ∧ GrowN H G 1 t (cellsOf (pl i F))) (fun y G => ∃ t, y = (t, ()) ∧ GrowN H G 1 t (cellsOf (pl (p.length - 1) F)))
    (by
      rintro i _ G hi ⟨t, rfl, ht, g⟩
      refine .inl ?_
      obtain ⟨b, o, a1, a2, _⟩ := (h.keep g.keep).byte (i := i + 1) (by omega)
      obtain ⟨t', G2, b1, b2, b3, b4, _⟩ := g.one (bytes := 1) (new := [.int .u8 (un (F i))]) (by decide) rfl (by omega) (by omega)
      rw [← hsn i] at b3
      refine ⟨(t', ((i + 1 + 1 : Nat) : Int), ()), G2, ?_, t', rfl, by omega, b3⟩
      have hmod : Int.tmod ((i + 1 : Nat) : Int) 2 = (((i + 1) % 2 : Nat) : Int) := rfl
      unfold gf_Poly_Slope.s1
      simp only [decide_eq_true (show ((i + 1 : Nat) : Int) < (s.len : Int) by omega), cond_t, hmod]
      by_cases hp : (i + 1) % 2 = 1
      · have hF : F i = co p (i + 1) := if_pos hp
        rw [hF] at b1 b2
        simp only [decide_eq_true (show (((i + 1) % 2 : Nat) : Int) = 1 by omega), cond_t, a1, bind_some, a2, b1, b2, wrap_succ (show i + 1 < 9223372036854775807 by omega)]
      · have hF : F i = 0 := if_neg hp
        rw [hF] at b1 b2
        have b1' : slRow (G ++ [Blk.cells [.int .u8 0] .exact]) 1 ⟨some (G.length, 0), 1, 1⟩ = some [.int .u8 (un 0)] := b1
        have b2' : appS (G ++ [Blk.cells [.int .u8 0] .exact]) 1 1 t 1 [.int .u8 (un 0)] = some (t', G2) := b2
        simp only [decide_eq_false (show ¬ (((i + 1) % 2 : Nat) : Int) = 1 by omega), cond_f, b1', bind_some, b2', wrap_succ (show i + 1 < 9223372036854775807 by omega)])
    (by
      rintro _ G ⟨t, rfl, ht, g⟩
      refine ⟨(t, ()), G, ?_, t, rfl, g⟩
      unfold gf_Poly_Slope.s1
      simp only [decide_eq_false (show ¬ ((p.length - 1 + 1 : Nat) : Int) < (s.len : Int) by omega), cond_f])
    (y := (⟨none, 0, 0⟩, ((0 + 1 : Nat) : Int), ())) (H := H) ⟨_, rfl, rfl, GrowN.ni (Keep.refl _ _) 1⟩
  have l1' : loopW (gf_Poly_Slope.s1 s) (⟨none, 0, 0⟩, 1, ()) H = some ((t, ()), G) := l1
  have pt : PAt G t (pslope p) := ⟨g.row, by rw [g.gr.cap]; exact Nat.le_refl _⟩
  obtain ⟨t2, G2, e1, e2, e3, e4⟩ := trim_new pt (by unfold pslope; rw [pl_len]; omega)
  refine ⟨t2, G2, ?_, e2, g.keep.trans e3, fun b o ho => Nat.le_trans g.keep.len (e4 b o ho)⟩
  unfold gf_Poly_Slope
  simp only [l1', bind_some, e1]
/-- One step of dividing: what is taken off. -/
def mstep (q : Bytes) (top : UInt8) (out : Bytes) : Bytes := trim (padd out (trim (psh (out.length - q.length) (trim (psc (gm (co out (out.length - 1)) top) q)))))
theorem tl_trim (p : Bytes) : tl (trim p) = (trim p).length := by
  rw [trim_len]
  exact tl_eq (fun i hi => by rw [co_trim]; exact tl_zero p i hi) fun h => by rw [co_trim]; exact tl_ne p h
theorem co_mstep (q : Bytes) (top : UInt8) (out : Bytes) (i : Nat) : co (mstep q top out) i = co out i ^^^ (if i < out.length - q.length then 0 else gm (gm (co out (out.length - 1)) top) (co q (i - (out.length - q.length)))) := by
  unfold mstep
  rw [co_trim, co_padd, co_trim, co_psh]
  split
  · rfl
  · rw [co_trim, co_psc]
theorem mstep_less {q out : Bytes} (hq : 0 < q.length) (hlast : co q (q.length - 1) ≠ 0) (hle : q.length ≤ out.length) : (mstep q (ginv (co q (q.length - 1))) out).length < out.length := by
  have hz : ∀ i, out.length - 1 ≤ i → co (mstep q (ginv (co q (q.length - 1))) out) i = 0 := by
    intro i hi
    rw [co_mstep, if_neg (by omega)]
    by_cases he : i = out.length - 1
    · subst he
      rw [show out.length - 1 - (out.length - q.length) = q.length - 1 by omega, gm_assoc, gm_comm (ginv _), gm_ginv hlast, gm_one, UInt8.xor_self]
    · rw [co_ge (p := out) (i := i) (by omega), co_ge (p := q) (i := i - (out.length - q.length)) (by omega), gm_zero]; rfl
  have h1 : tl (mstep q (ginv (co q (q.length - 1))) out) ≤ out.length - 1 := by
    by_cases h : tl (mstep q (ginv (co q (q.length - 1))) out) ≤ out.length - 1
    · exact h
    · exact absurd (hz _ (by omega)) (tl_ne _ (by omega))
  have h2 : (mstep q (ginv (co q (q.length - 1))) out).length = tl (mstep q (ginv (co q (q.length - 1))) out) := (tl_trim _).symm
  omega
theorem ev_mstep (q : Bytes) (top : UInt8) (out : Bytes) {x : UInt8} (hx : ev q x = 0) : ev (mstep q top out) x = ev out x := by
  unfold mstep
  rw [ev_trim, ev_padd, ev_trim, ev_psh, ev_trim, ev_psc, hx, gm_zero, gm_zero, UInt8.xor_zero]
/-- Dividing on, as long as it goes. -/
def modL (q : Bytes) (top : UInt8) : Nat → Bytes → Bytes
  | 0, out => out
  | f + 1, out => if q.length ≤ out.length then modL q top f (mstep q top out) else out
def topOf (q : Bytes) : UInt8 := ginv (co q (q.length - 1))
def pmod (p q : Bytes) : Bytes := modL (trim q) (topOf (trim q)) (trim p).length (trim p)
theorem modL_stay {q : Bytes} (hq : 0 < q.length) (hlast : co q (q.length - 1) ≠ 0) : ∀ (n : Nat) (out : Bytes), out.length ≤ n → ∀ f, out.length ≤ f → modL q (topOf q) f out = modL q (topOf q) n out
  | 0, out, h, f, _ => by
    cases f with
    | zero => rfl
    | succ f => exact if_neg (show ¬ q.length ≤ out.length by omega)
  | n + 1, out, h, f, hf => by
    cases f with
    | zero => rw [modL, modL, if_neg (by omega)]
    | succ f =>
      rw [modL, modL]
      split
      · rename_i hle
        have := mstep_less hq hlast hle
        have this' : (mstep q (topOf q) out).length < out.length := this
        exact modL_stay hq hlast n _ (by omega) f (by omega)
      · rfl
theorem modL_len {q : Bytes} (hq : 0 < q.length) (hlast : co q (q.length - 1) ≠ 0) : ∀ (n : Nat) (out : Bytes), out.length ≤ n → (modL q (topOf q) n out).length < q.length
  | 0, out, h => by rw [modL]; omega
  | n + 1, out, h => by
    rw [modL]
    split
    · rename_i hle
      have this' : (mstep q (topOf q) out).length < out.length := mstep_less hq hlast hle
      exact modL_len hq hlast n _ (by omega)
    · omega
theorem ev_modL (q : Bytes) (top x : UInt8) (hx : ev q x = 0) : ∀ (n : Nat) (out : Bytes), ev (modL q top n out) x = ev out x
  | 0, _ => rfl
  | n + 1, out => by
    rw [modL]
    split
    · rw [ev_modL q top x hx n, ev_mstep q top out hx]
    · rfl
theorem pmod_len {p q : Bytes} (hq : 0 < tl q) : (pmod p q).length < tl q := by
  have h := modL_len (q := trim q) (by rw [trim_len]; exact hq) (by rw [co_trim, trim_len]; exact tl_ne q hq) _ (trim p) (Nat.le_refl _)
  rw [trim_len] at h
  unfold pmod
  rw [trim_len] at h ⊢
  exact h
theorem ev_pmod {p q : Bytes} {x : UInt8} (hx : ev q x = 0) : ev (pmod p q) x = ev p x := by
  unfold pmod
  rw [ev_modL _ _ _ (by rw [ev_trim]; exact hx), ev_trim]
theorem mod_eq (h : PAt H s p) (h2 : PAt H s2 q) (hl : p.length < 100000) (hl2 : q.length < 100000) (hq : 0 < tl q) : ∃ t G, gf_Poly_Mod s s2 H = some ((t, ()), G) ∧ PAt G t (pmod p q) ∧ Keep (fun _ => False) H G := by
  have hlen := h.len
  obtain ⟨t1, G1, e1, e2, e3⟩ := trim_eq h2 (by omega)
  have hq1 := trim_len q
  have ht1 := e2.len
  rw [hq1] at ht1
  have hlast : co (trim q) ((trim q).length - 1) ≠ 0 := by rw [co_trim, hq1]; exact tl_ne q hq
  obtain ⟨t4, G4, f1, f2, f3, _⟩ := app_none (G := G1) (q := p) (by omega)
  have hrow := ((h.keep e3).keep (Keep.push (fun _ => False) G1 (.cells [] .exact))).row.row
  obtain ⟨t5, G5, c1, c2, c3⟩ := trim_eq f2 (by omega)
  have k5 := (e3.trans f3).trans c3
  have q5 := e2.keep (f3.trans c3)
  obtain ⟨b, o, a1, a2, _⟩ := e2.byte (i := tl q - 1) (by omega)
  obtain ⟨b', o', a1', a2', _⟩ := q5.byte (i := tl q - 1) (by omega)
  have hb : (b, o) = (b', o') := Option.some.inj (a1.symm.trans a1')
  obtain ⟨rfl, rfl⟩ := Prod.mk.inj hb
  have hw : IntKind.wrap .i64 ((t1.len : Int) - 1) = ((tl q - 1 : Nat) : Int) := by
    have := tl_le q
    rw [wrap_i64 (by omega) (by omega)]; omega
  have hd0 : decide ((t1.len : Int) = 0) = false := decide_eq_false (by omega)
  have htlq := tl_le q
  obtain ⟨y, G, l1, t, rfl, r1, r2⟩ := loopW_run (step := gf_Poly_Mod.s1 ((t1, ()), G1) (un (ginv (co (trim q) ((trim q).length - 1))), ())) (fun y G => ∃ out, PAt G y.1 out ∧ Keep (fun _ => False) G5 G ∧ out.length ≤ p.length ∧ modL (trim q) (topOf (trim q)) out.length out = pmod p q) (fun y G => ∃ t, y = (t, ()) ∧ PAt G t (pmod p q) ∧ Keep (fun _ => False) G5 G) (fun y _ => y.1.len)
    (by
      rintro ⟨y, u⟩ G ⟨out, o1, o2, o3, o4⟩
      have ol := o1.len
      simp only at o1 ol
      unfold gf_Poly_Mod.s1
      by_cases hle : tl q ≤ out.length
      · have hd : decide ((t1.len : Int) ≤ (y.len : Int)) = true := decide_eq_true (by omega)
        obtain ⟨bb, oo, d1, d2, _⟩ := o1.byte (i := out.length - 1) (by omega)
        have hw2 : IntKind.wrap .i64 ((y.len : Int) - 1) = ((out.length - 1 : Nat) : Int) := by rw [wrap_i64 (by omega) (by omega)]; omega
        have hw3 : IntKind.wrap .i64 ((y.len : Int) - (t1.len : Int)) = ((out.length - (trim q).length : Nat) : Int) := by rw [wrap_i64 (by omega) (by omega)]; omega
        obtain ⟨t6, G6, i1, i2, i3⟩ := times_eq (q5.keep o2) (by omega) (gm (co out (out.length - 1)) (ginv (co (trim q) ((trim q).length - 1))))
        have hpl : (trim (psc (gm (co out (out.length - 1)) (ginv (co (trim q) ((trim q).length - 1)))) (trim q))).length ≤ (trim q).length := by
          rw [trim_len]
          refine Nat.le_trans (tl_le _) ?_
          unfold psc
          rw [pl_len]; exact Nat.le_refl _
        obtain ⟨t7, G7, j1, j2, j3⟩ := shift_eq i2 (n := out.length - (trim q).length) (by omega)
        have hpl2 : (trim (psh (out.length - (trim q).length) (trim (psc (gm (co out (out.length - 1)) (ginv (co (trim q) ((trim q).length - 1)))) (trim q))))).length ≤ out.length := by
          rw [trim_len]
          refine Nat.le_trans (tl_le _) ?_
          unfold psh
          rw [pl_len]; omega
        obtain ⟨t8, G8, k1, k2, k3⟩ := add_eq (o1.keep (i3.trans j3)) j2 (by omega) (by omega)
        have hres : mstep (trim q) (ginv (co (trim q) ((trim q).length - 1))) out = trim (padd out (trim (psh (out.length - (trim q).length) (trim (psc (gm (co out (out.length - 1)) (ginv (co (trim q) ((trim q).length - 1)))) (trim q)))))) := rfl
        rw [← hres] at k2
        have hless := mstep_less (q := trim q) (out := out) (by omega) hlast (by omega)
        have hk2 := k2.len
        simp only [hd, cond_t, hw2, d1, bind_some, d2, gf_Mul_eq, i1, hw3, j1, k1, Round]
        refine ⟨⟨_, k2, ((o2.trans i3).trans j3).trans k3, by omega, ?_⟩, by omega⟩
        rw [← o4]
        obtain ⟨m, hm⟩ : ∃ m, out.length = m + 1 := ⟨out.length - 1, by omega⟩
        rw [hm, modL, if_pos (by omega)]
        exact (modL_stay (q := trim q) (by omega) hlast _ _ (Nat.le_refl _) m (by
          have : (mstep (trim q) (topOf (trim q)) out).length < out.length := hless
          omega)).symm
      · have hd : decide ((t1.len : Int) ≤ (y.len : Int)) = false := decide_eq_false (by omega)
        simp only [hd, cond_f, Round]
        refine ⟨y, rfl, ?_, o2⟩
        rw [← o4]
        cases hol : out.length with
        | zero => exact o1
        | succ m => rw [modL, if_neg (by omega)]; exact o1) (t5, ()) G5 ⟨trim p, c2, Keep.refl _ _, by rw [trim_len]; exact tl_le p, rfl⟩
  refine ⟨t, G, ?_, r1, k5.trans r2⟩
  unfold gf_Poly_Mod
  have hinv := gf_Inv_eq (co (trim q) ((trim q).length - 1))
  have ha : co (trim q) ((trim q).length - 1) = co (trim q) (tl q - 1) := by rw [hq1]
  rw [← ha] at a2'
  simp only [e1, bind_some, hrow, hlen, f1, c1, hd0, cond_f, hw, a1, a2', hinv, l1]
end
end Ev
