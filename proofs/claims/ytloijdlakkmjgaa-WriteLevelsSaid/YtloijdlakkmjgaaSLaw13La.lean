/- Chapter 13: WriteLevels. -/
import Derived.Test.YtloijdlakkmjgaaSLaw13F
namespace Ev
open Go (IntKind)

/-- Blocks that are erased as soon as they are full: c rounds, m blocks of the next one, q pages of block m. -/
structure Lvl (a : NdA) (s : Nd) (v : Wr) (c : Int) (m q : Nat) : Prop where
  l : ∀ i, i < a.B → v.lf.l i = if i = m ∧ 0 < q then 1 else 0
  op : v.lf.op = if 0 < q then (m : Int) else -1
  nx : 0 < q → v.lf.nx = q
  hq : q < a.P
  hm : m < a.B
  worn : ∀ i, i < a.B → v.worn i = if i < m then c + 1 else c
  same : ∀ i, i < a.B → s.worn i = v.worn i
  bad : v.bad = []
  hc : 0 ≤ c
  fails : s.fails = []
  dead : ∀ i, s.dead i = false
theorem Lvl.new (a : NdA) (hB : 0 < a.B) (hP : 0 < a.P) : Lvl a (Nd.new [] [] []) Wr.new 0 0 0 :=
  ⟨fun i _ => by rw [if_neg (by omega)]; rfl, rfl, fun h => absurd h (by omega), hP, hB, fun i _ => by rw [if_neg (by omega)]; rfl, fun _ _ => rfl, rfl, Int.le_refl _, rfl, fun i => (by show decide ((i : Int) ∈ ([] : List Int)) = false; simp)⟩
theorem Lvl.nxt {a : NdA} {e : LfA} {s : Nd} {v : Wr} {c : Int} {m q : Nat} (f : Lvl a s v c m q) (eB : e.B = a.B) : Nxt e v m ∧ (v.opn m).lf.nx = q ∧ (v.opn m).lf.op = (m : Int) ∧ (∀ i, i < a.B → (v.opn m).lf.l i = if i = m then 1 else 0) ∧ (v.opn m).worn = v.worn ∧ (v.opn m).bad = v.bad := by
  have hop := f.op
  have hm := f.hm
  by_cases hq : 0 < q
  · rw [if_pos hq] at hop
    have ho : v.opn m = v := by unfold Wr.opn; rw [if_neg (by omega)]
    rw [ho]
    refine ⟨.inl hop, f.nx hq, hop, fun i hi => ?_, rfl, rfl⟩
    rw [f.l i hi]
    simp [hq]
  · rw [if_neg hq] at hop
    have ho : v.opn m = { v with lf := ⟨upd v.lf.l m 1, (m : Int), 0⟩ } := by unfold Wr.opn; rw [if_pos (by omega)]
    rw [ho]
    refine ⟨.inr ⟨by omega, by omega, ?_, fun c' hc hc0 => ?_⟩, by show 0 = q; omega, rfl, fun i hi => ?_, rfl, rfl⟩
    · rw [f.l m hm, if_neg (by omega)]
    · rw [f.worn m hm, f.worn c' (by omega), if_neg (by omega)]
      constructor
      · split <;> omega
      · intro hlt
        rw [if_pos hlt]; omega
    · show upd v.lf.l m 1 i = _
      unfold upd
      by_cases hi2 : i = m
      · rw [if_pos hi2, if_pos hi2]
      · rw [if_neg hi2, f.l i hi, if_neg (show ¬ (i = m ∧ 0 < q) by omega), if_neg hi2]
/-- One page more, not the last one of its block. -/
theorem Lvl.step {a : NdA} {e : LfA} {s : Nd} {v : Wr} {c : Int} {m q : Nat} (f : Lvl a s v c m q) (eB : e.B = a.B) (eP : e.P = a.P) (hl : q + 1 ≠ a.P) (T : Bytes) : Lvl a (s.acted.lay a m (v.opn m).lf.nx T) (v.wrote e m) c m (q + 1) := by
  obtain ⟨_, n1, n2, n3, n4, n5⟩ := f.nxt eB
  have hq := f.hq
  have hcond : ¬ (v.opn m).lf.nx + 1 = e.P := by omega
  refine ⟨fun i hi => ?_, ?_, fun _ => ?_, by omega, f.hm, fun i hi => ?_, fun i hi => ?_, ?_, f.hc, f.fails, f.dead⟩
  · show ((v.opn m).lf.took e m).l i = _
    rw [took_l, if_neg hcond, n3 i hi]
    simp
  · show ((v.opn m).lf.took e m).op = _
    rw [took_op, if_neg hcond, n2, if_pos (by omega)]
  · show ((v.opn m).lf.took e m).nx = _
    unfold Lf.took
    rw [if_neg hcond, n1]
  · show (v.opn m).worn i = _
    rw [n4]; exact f.worn i hi
  · show s.worn i = (v.opn m).worn i
    rw [n4]; exact f.same i hi
  · show (v.opn m).bad = []
    rw [n5]; exact f.bad
/-- The last one, and the block erased. -/
theorem Lvl.turn {a : NdA} {e : LfA} {s : Nd} {v : Wr} {c : Int} {m q : Nat} (f : Lvl a s v c m q) (eB : e.B = a.B) (eP : e.P = a.P) (hl : q + 1 = a.P) (s1 : Nd) (hs : s1.worn = s.worn) (hf : s1.fails = s.fails) (hd : s1.dead = s.dead) (n : Int) :
    Lvl a (({ s1 with did := n, worn := upd s1.worn m (s1.worn m + 1) } : Nd).clear m a.P) { v.wrote e m with worn := upd (v.wrote e m).worn m ((v.wrote e m).worn m + 1), lf := (v.wrote e m).lf.set m 0 } (if m + 1 = a.B then c + 1 else c) (if m + 1 = a.B then 0 else m + 1) 0 := by
  obtain ⟨_, n1, n2, n3, n4, n5⟩ := f.nxt eB
  have hm := f.hm
  have hq := f.hq
  have hP : 0 < a.P := by omega
  have hcond : (v.opn m).lf.nx + 1 = e.P := by omega
  have hlf : (v.wrote e m).lf.set m 0 = ⟨upd (upd (v.opn m).lf.l m 2) m 0, -1, (v.opn m).lf.nx + 1⟩ := by
    have e1 : (v.wrote e m).lf = ⟨upd (v.opn m).lf.l m 2, -1, (v.opn m).lf.nx + 1⟩ := by
      show (v.opn m).lf.took e m = _
      unfold Lf.took
      rw [if_pos hcond]
    rw [e1]
    unfold Lf.set
    rw [if_neg (by simp [upd])]
    simp only
    rw [if_neg (by omega)]
  refine ⟨fun i hi => ?_, ?_, fun h => absurd h (by omega), hP, ?_, fun i hi => ?_, fun i hi => ?_, ?_, ?_, ?_, fun i => ?_⟩
  · show ((v.wrote e m).lf.set m 0).l i = _
    rw [hlf, if_neg (show ¬ (i = (if m + 1 = a.B then 0 else m + 1) ∧ 0 < 0) by omega)]
    show upd (upd (v.opn m).lf.l m 2) m 0 i = 0
    unfold upd
    split
    · rfl
    · rename_i hne
      rw [n3 i hi, if_neg hne]
  · show ((v.wrote e m).lf.set m 0).op = _
    rw [hlf]; rfl
  · split <;> omega
  · show upd (v.opn m).worn m ((v.opn m).worn m + 1) i = _
    rw [n4]
    have hwm := f.worn m hm
    rw [if_neg (by omega)] at hwm
    unfold upd
    by_cases hmB : m + 1 = a.B
    · simp only [if_pos hmB]
      rw [if_neg (show ¬ i < 0 by omega)]
      by_cases him : i = m
      · rw [if_pos him, hwm]
      · rw [if_neg him, f.worn i hi, if_pos (by omega)]
    · simp only [if_neg hmB]
      by_cases him : i = m
      · rw [if_pos him, hwm, if_pos (by omega)]
      · rw [if_neg him, f.worn i hi]
        by_cases hlt : i < m
        · rw [if_pos hlt, if_pos (by omega)]
        · rw [if_neg hlt, if_neg (by omega)]
  · show upd s1.worn m (s1.worn m + 1) i = upd (v.opn m).worn m ((v.opn m).worn m + 1) i
    rw [n4, hs]
    unfold upd
    rw [f.same m hm]
    split
    · rfl
    · exact f.same i hi
  · show (v.opn m).bad = []
    rw [n5]; exact f.bad
  · have := f.hc
    split <;> omega
  · show s1.fails = []
    rw [hf]; exact f.fails
  · show s1.dead i = false
    rw [hd]; exact f.dead i
theorem Row.int_at {H : Heap} {t : Sl} {n : Nat} {f : Nat → Int} (h : Row H 1 t (arrC n fun i => [.int .i64 (f i)])) {i : Nat} (hi : i < n) : ∃ b o, Sl.at 1 t (i : Int) = some (b, o) ∧ rdI .i64 H b o = some (f i) := by
  have hl : ∀ i, ((fun i => [C.int .i64 (f i)]) i).length = 1 := fun _ => rfl
  have hlen := h.len
  rw [arrC_length hl] at hlen
  obtain ⟨b, o, hp, h1, cs, bk, h2, h3, h4⟩ := slRow_cell h.row (i := i) (by omega) h.nil
  refine ⟨b, o + i * 1, h1, rdI_of h2 ?_⟩
  have := h4 0 (by decide)
  rw [Nat.add_zero] at this
  rw [this, arrC_get hl (j := 0) (by decide) hi]; rfl
theorem Row.len_arr {H : Heap} {t : Sl} {n : Nat} {f : Nat → Int} (h : Row H 1 t (arrC n fun i => [.int .i64 (f i)])) : t.len = n := by
  have hlen := h.len
  rw [arrC_length (f := fun i => [C.int .i64 (f i)]) (es := 1) fun _ => rfl] at hlen
  omega

theorem WriteLevels_true (x0 : Geo) (x1 : Int) (_ : ∀ c ∈ Tup.mk [.int .i64, .int .i64, .int .i64] x0, wfC c) (_ : wfC (.int .i64 x1)) : law13_WriteLevels x0 x1 = some (true, ()) := by
  unfold law13_WriteLevels law13_WriteLevels.on
  have q1 : ([] : Heap) ++ [Blk.cells [.int .i64 x0.1, .int .i64 x0.2.1, .int .i64 x0.2.2.1] .exact] = [Blk.cells [.int .i64 x0.1, .int .i64 x0.2.1, .int .i64 x0.2.2.1] .exact] := rfl
  have r1 := rd_geo (H := [Blk.cells [.int .i64 x0.1, .int .i64 x0.2.1, .int .i64 x0.2.2.1] .exact]) (k := ([] : Heap).length) (g := x0) (bk := .exact) rfl
  have eg : (x0.1, x0.2.1, x0.2.2.1, ()) = x0 := rfl
  obtain ⟨H1, a, e, z, b1, b2, b3, ⟨hB0, hB1, hP0, hP1, hS0, hS1⟩, i0, w0⟩ := begun13n [Blk.cells [.int .i64 x0.1, .int .i64 x0.2.1, .int .i64 x0.2.2.1] .exact] x0
  obtain ⟨eB, eP⟩ := b2.eB
  obtain ⟨G, g1, g2, g3⟩ := nand_geometry b2.nd
  have hg := b2.keep g3 fun _ _ => id
  let zB : Blk := .cells [.int .i64 (a.B : Int), .int .i64 (a.P : Int), .int .i64 (a.S : Int)] .exact
  have w1 : wr (G ++ [Blk.cells [.int .i64 0, .int .i64 0, .int .i64 0] .exact]) G.length 0 [.int .i64 (a.B : Int), .int .i64 (a.P : Int), .int .i64 (a.S : Int)] = some (G ++ [zB]) := by
    rw [wr_last (by decide) (by simp)]; rfl
  have h0 : WrAt (fun k => k = G.length) (G ++ [zB]) z a e (Nd.new [] [] []) Wr.new ⟨none, 0, 0⟩ := (hg.push zB).more (fun k hk hm => by have := hg.lt hk; omega) (fun k hk => by simp; omega)
  have an := and_ones (k := .i64) (x := x1) (m := 1023) 10 (by decide) (by decide)
  obtain ⟨n, hn⟩ : ∃ n : Nat, bitsI .and .i64 x1 1023 = (n : Int) := ⟨(bitsI .and .i64 x1 1023).toNat, (Int.toNat_of_nonneg an.1).symm⟩
  have hn2 : n ≤ 1023 := by omega
  have hPd : decide ((a.P : Int) = 0) = false := decide_eq_false (by omega)
  have hP1' : IntKind.wrap .i64 ((a.P : Int) - 1) = (a.P : Int) - 1 := wrap_i64 (by omega) (by omega)
  obtain ⟨y, R, l1, rfl, s, v, sb, c, m, q, f1, f3, f4, f5, f6⟩ := loop_rise (step := law13_WriteLevels.s1 x1 ((some (a.c, 0), some (z.w, 0), true, ()), H1) ((((a.B : Int), (a.P : Int), (a.S : Int), ()), ()), G)) n
    (fun k y R => y = ((k : Int), ()) ∧ ∃ s v sb c m q, WrAt (fun k => k = G.length) R z a e s v sb ∧ R[G.length]? = some zB ∧ WInv a s v ∧ Wf a s (45 * k) ∧ Lvl a s v c m q ∧ c ≤ k)
    (fun x R => x = .inl () ∧ ∃ s v sb c m q, WrAt (fun k => k = G.length) R z a e s v sb ∧ WInv a s v ∧ Wf a s 100000 ∧ Lvl a s v c m q ∧ c ≤ 1023)
    (by
      rintro k _ R hk ⟨rfl, s, v, sb, c, m, q, f1, f2, f3, f4, f5, f6⟩
      obtain ⟨n1, n2, _, _, n5, n6⟩ := f5.nxt eB
      have hw : ∀ j, j < a.B → 0 ≤ v.worn j ∧ v.worn j ≤ 1000 + 24 := fun j hj => by
        have := f5.hc
        rw [f5.worn j hj]
        split <;> omega
      obtain ⟨_, _, hnx, R', sb', c1, c2, c3, c4, c5⟩ := app_next f1 f3 f4 (by omega) (by omega) (by omega) (by rw [f5.bad]; decide) (n := k) (by omega) (x := [120]) (fun j hj => by have := hw j hj; omega) (by show 1 ≤ a.S; omega) (failNow_nil f5.fails) n1
      have hm := f5.hm
      have hq := f5.hq
      rw [n2] at c1 
      have f2' := c3.get f2 (fun h => h rfl)
      have rP : rdI .i64 R' G.length 1 = some (a.P : Int) := rdI_of f2' rfl
      obtain ⟨d1, d2⟩ := divP m q a.P hq
      have hmod : Int.tmod ((m * a.P + q : Nat) : Int) (a.P : Int) = (q : Int) := by
        have : Int.tmod ((m * a.P + q : Nat) : Int) (a.P : Int) = (((m * a.P + q) % a.P : Nat) : Int) := rfl
        rw [this, d2]
      have hdiv : IntKind.wrap .i64 (Int.tdiv ((m * a.P + q : Nat) : Int) (a.P : Int)) = (m : Int) := by
        have : Int.tdiv ((m * a.P + q : Nat) : Int) (a.P : Int) = (((m * a.P + q) / a.P : Nat) : Int) := rfl
        rw [this, d1]
        exact wrap_i64 (by omega) (by omega)
      have et : ((tagN k).1, (tagN k).2.1, (tagN k).2.2.1, (tagN k).2.2.2.1, (tagN k).2.2.2.2.1, ()) = tagN k := rfl
      by_cases hl : q + 1 = a.P
      · have hwl : (v.wrote e m).lf.l m = 2 := by
          show ((v.opn m).lf.took e m).l m = 2
          rw [took_l, if_pos (by omega)]; simp [upd]
        obtain ⟨R2, sb2, k1, k2, k3, k4, k5⟩ := erase_next c2 c4 c5 (by omega) (by rw [wrote_worn.2, f5.bad]; decide) (fun j hj => by rw [wrote_worn.1]; have := hw j hj; omega) (failNow_nil f5.fails) hm (f5.dead m) (by rw [hwl]; decide)
        refine .inl ⟨(((k + 1 : Nat) : Int), ()), R2, ?_, rfl, _, _, sb2, _, _, _, k2, k3.get f2' (fun h => h rfl), k4, k5.le (by omega) (by omega), f5.turn eB eP hl (s.acted.lay a m (v.opn m).lf.nx (frameB a ((tagN k).worn (v.worn m)) [120])) rfl rfl rfl _, by split <;> omega⟩
        unfold law13_WriteLevels.s1
        simp only [hn, decide_eq_true (show (k : Int) < (n : Int) by omega), cond_t, tag_eq (show k < 4294967296 by omega), et, bind_some, c1, decide_true, Bool.not_true, cond_f, rP, hPd, hmod, hP1', decide_eq_true (show (q : Int) = (a.P : Int) - 1 by omega), hdiv, k1, wrap_succ (show k < 9223372036854775807 by omega)]
      · refine .inl ⟨(((k + 1 : Nat) : Int), ()), R', ?_, rfl, _, _, sb', c, m, q + 1, c2, f2', c4, c5.le (by omega) (by omega), f5.step eB eP hl _, by omega⟩
        unfold law13_WriteLevels.s1
        simp only [hn, decide_eq_true (show (k : Int) < (n : Int) by omega), cond_t, tag_eq (show k < 4294967296 by omega), et, bind_some, c1, decide_true, Bool.not_true, cond_f, rP, hPd, hmod, hP1', decide_eq_false (show ¬ (q : Int) = (a.P : Int) - 1 by omega), wrap_succ (show k < 9223372036854775807 by omega)])
    (by
      rintro _ R ⟨rfl, s, v, sb, c, m, q, f1, f2, f3, f4, f5, f6⟩
      refine ⟨.inl (), R, ?_, rfl, s, v, sb, c, m, q, f1, f3, f4.le (by omega) (by omega), f5, by omega⟩
      unfold law13_WriteLevels.s1
      simp only [hn, decide_eq_false (show ¬ (n : Int) < (n : Int) by omega), cond_f])
    (y := (((0 : Nat) : Int), ())) ⟨rfl, _, _, _, 0, 0, 0, h0, app_last, i0, w0.le (by omega) (by omega), Lvl.new a (by omega) (by omega), by omega⟩
  have l1' : loopW (law13_WriteLevels.s1 x1 ((some (a.c, 0), some (z.w, 0), true, ()), H1) ((((a.B : Int), (a.P : Int), (a.S : Int), ()), ()), G)) (0, ()) (G ++ [zB]) = some (.inl (), R) := l1
  obtain ⟨t1, R1, p1, p2, p3, p4⟩ := nand_worn f1.nd
  obtain ⟨t2, R2, u1, u2, u3, u4⟩ := write_Worn (f1.keep p4 fun _ _ => id)
  rw [eB] at u2
  have p2' : Row R2 1 t1 (arrC a.B fun i => [.int .i64 (s.worn i)]) := p2.keep u3 fun _ _ _ => id
  have hlen := p2'.len_arr
  have hc := f5.hc
  obtain ⟨y, R3, l2, lo, hi, rfl, hlo, hhi, hhi2⟩ := loop_rise (step := law13_WriteLevels.s2 ((t1, ()), R1) ((t2, ()), R2)) a.B
    (fun k y R => ∃ lo hi : Int, y = (lo, hi, (k : Int), ()) ∧ R = R2 ∧ c ≤ lo ∧ lo ≤ 1073741824 ∧ 0 ≤ hi ∧ hi ≤ c + 1)
    (fun x _ => ∃ lo hi : Int, x = .inl (lo, hi, ()) ∧ 0 ≤ hi ∧ hi - lo ≤ 1 ∧ lo ≤ 1073741824)
    (by
      rintro k _ R hk ⟨lo, hi, rfl, rfl, k1, k2, k3, k4⟩
      obtain ⟨o1, o2, a1, a2⟩ := p2'.int_at hk
      obtain ⟨o3, o4, a3, a4⟩ := Row.int_at (f := v.worn) u2 hk
      have hsame := f5.same k hk
      rw [hsame] at a2
      have hwk := f5.worn k hk
      have hwk2 : c ≤ v.worn k ∧ v.worn k ≤ c + 1 := by rw [hwk]; split <;> omega
      refine .inl ⟨((if v.worn k < lo then v.worn k else lo), (if v.worn k > hi then v.worn k else hi), ((k + 1 : Nat) : Int), ()), R, ?_, _, _, rfl, rfl, by split <;> omega, by split <;> omega, by split <;> omega, by split <;> omega⟩
      unfold law13_WriteLevels.s2
      simp only [hlen, decide_eq_true (show (k : Int) < (a.B : Int) by omega), cond_t, a1, bind_some, a2, a3, a4, decide_true, Bool.not_true, cond_f, wrap_succ (show k < 9223372036854775807 by omega)])
    (by
      rintro _ R ⟨lo, hi, rfl, rfl, k1, k2, k3, k4⟩
      refine ⟨.inl (lo, hi, ()), R, ?_, lo, hi, rfl, by omega, by omega, by omega⟩
      unfold law13_WriteLevels.s2
      simp only [hlen, decide_eq_false (show ¬ (a.B : Int) < (a.B : Int) by omega), cond_f])
    (y := (1073741824, 0, ((0 : Nat) : Int), ())) ⟨1073741824, 0, rfl, rfl, by omega, by omega, by omega, by omega⟩
  have l2' : loopW (law13_WriteLevels.s2 ((t1, ()), R1) ((t2, ()), R2)) (1073741824, 0, 0, ()) R2 = some (.inl (lo, hi, ()), R3) := l2
  have hw9 : IntKind.wrap .i64 (hi - lo) ≤ 1 := by
    by_cases hge : -9223372036854775808 ≤ hi - lo
    · rw [wrap_i64 hge (by omega)]; exact hhi
    · omega
  simp only [q1, r1, bind_some, eg, b1, awake13, Bool.not_true, cond_f, g1, w1, l1', sum0, p1, u1, l2', decide_eq_true hw9]
end Ev
