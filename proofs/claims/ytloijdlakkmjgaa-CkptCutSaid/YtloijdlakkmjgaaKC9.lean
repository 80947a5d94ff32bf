/- SNandArm SLaw14d SLaw14e SLaw14g -/
import Derived.Test.YtloijdlakkmjgaaKC4
import Derived.Test.YtloijdlakkmjgaaKC8
/- The chip: faults that come later. -/
namespace Ev
open Go (IntKind)

/-- Faults that come later. -/
theorem nand_arm {H : Heap} {a : NdA} {s : Nd} {f : Sl × Sl × Sl × Unit} {cuts : List Cut} {fails : List Int} (h : NdAt H a s) (hcu : Row H 3 f.1 (cutC cuts)) (hfa : Row H 1 f.2.1 (intC fails)) (hl1 : cuts.length ≤ 1099511627776) (hl2 : fails.length ≤ 1099511627776) :
    ∃ H' t1 t2, nand_Chip_Arm (some (a.c, 0)) f H = some ((), H') ∧ NdAt H' { a with cs := t1, fs := t2 } { s with cuts := cuts, fails := fails, did := 0 } ∧ Keep a.fp H H' ∧ (∀ k o, t1.p = some (k, o) → H.length ≤ k) ∧ ∀ k o, t2.p = some (k, o) → H.length ≤ k := by
  unfold nand_Chip_Arm
  let fB : Blk := .cells [.sl 3 f.1, .sl 1 f.2.1, .sl 1 f.2.2.1] .exact
  have k1 : Keep (fun _ => False) H (H ++ [fB]) := Keep.push _ _ _
  have f1 : (H ++ [fB])[H.length]? = some fB := app_last
  have hcl : f.1.len = cuts.length := by have := hcu.len; rw [cutC_length] at this; omega
  have hfl : f.2.1.len = fails.length := hfa.int_len
  obtain ⟨t1, H4, c1, c2, c3, c4, c5⟩ := clone_cut (hcu.keep k1 fun _ _ _ => id) (by omega)
  obtain ⟨t2, H5, d1, d2, d3, d4, d5⟩ := clone_int (hfa.keep (k1.trans c3) fun _ _ _ => id) (by omega)
  have k5 := (k1.trans c3).trans d3
  have f4 := c3.get f1 id
  have e1 : (H ++ [fB]).length = H.length + 1 := by simp
  have h43 := c3.len
  have h54 := d3.len
  have n1 : ∀ k o, t1.p = some (k, o) → H.length ≤ k := fun k o hp => by have := c5 k o hp; omega
  have n2 : ∀ k o, t2.p = some (k, o) → H.length ≤ k := fun k o hp => by have := d5 k o hp; omega
  have h5 := h.keep k5 fun _ _ => id
  -- the three writes
  have hce := h5.cell
  have w1 : wr H5 a.c 4 [.sl 3 t1] = some (H5.set a.c (.cells ((a.cells s).set 4 (.sl 3 t1)) .exact)) := wr1_of hce (by decide) (by simp [NdA.cells])
  have hc6 := set_get (x := .cells ((a.cells s).set 4 (.sl 3 t1)) .exact) (get_lt hce)
  have w2 : wr (H5.set a.c (.cells ((a.cells s).set 4 (.sl 3 t1)) .exact)) a.c 5 [.sl 1 t2] = some ((H5.set a.c (.cells ((a.cells s).set 4 (.sl 3 t1)) .exact)).set a.c (.cells (((a.cells s).set 4 (.sl 3 t1)).set 5 (.sl 1 t2)) .exact)) := wr1_of hc6 (by decide) (by simp [NdA.cells])
  have hk6 : Keep (fun k => k = a.c) H5 ((H5.set a.c (.cells ((a.cells s).set 4 (.sl 3 t1)) .exact)).set a.c (.cells (((a.cells s).set 4 (.sl 3 t1)).set 5 (.sl 1 t2)) .exact)) := Keep.trans (F := fun k => k = a.c) (Keep.set _ _ _ rfl) (Keep.set _ _ _ rfl)
  have hc7 := set_get (x := .cells (((a.cells s).set 4 (.sl 3 t1)).set 5 (.sl 1 t2)) .exact) (get_lt hc6)
  generalize ((H5.set a.c (.cells ((a.cells s).set 4 (.sl 3 t1)) .exact)).set a.c (.cells (((a.cells s).set 4 (.sl 3 t1)).set 5 (.sl 1 t2)) .exact)) = H7 at w2 hk6 hc7
  have fpl : ∀ k, a.fp k → k < H.length := fun k hk => h.own_lt (.inl hk)
  have h7 : NdAt H7 { a with cs := t1, fs := t2 } { s with cuts := cuts, fails := fails } := by
    refine { cell := hc7, blks := hk6.get h5.blks (fun e => h.cb e.symm), pgs := fun i hi => hk6.get (h5.pgs i hi) (fun e => h.cp i hi e.symm), cuts := ?_, fails := ?_, cb := h.cb, cp := h.cp, bp := h.bp, pp := h.pp, csn := fun k o hp hf => ?_, fsn := fun k o hp hf => ?_, sz := h.sz, ln := ⟨hl1, hl2⟩ }
    · exact (c2.keep d3 fun _ _ _ => id).keep hk6 fun k o hp e => by
        have := n1 k o hp
        have := fpl k (.inl e)
        omega
    · exact d2.keep hk6 fun k o hp e => by
        have := n2 k o hp
        have := fpl k (.inl e)
        omega
    · have := n1 k o hp
      have := fpl k hf
      omega
    · have := n2 k o hp
      have := fpl k hf
      omega
  obtain ⟨H8, w3, w4, w5⟩ := h7.wdid 0
  have s1 : rdSl 3 (H ++ [fB]) H.length 0 = some f.1 := rdSl_of f1 rfl
  have s2 : rdSl 1 (H ++ [fB]) H.length 1 = some f.2.1 := rdSl_of f1 rfl
  have s4 : rdSl 1 H4 H.length 1 = some f.2.1 := rdSl_of f4 rfl
  have q : H ++ [Blk.cells [.sl 3 f.1, .sl 1 f.2.1, .sl 1 f.2.2.1] .exact] = H ++ [fB] := rfl
  refine ⟨H8, t1, t2, ?_, w4, ?_, n1, n2⟩
  · simp only [q, Option.isNone_some, Bool.not_false, cond_t, s1, bind_some, s2, c1, s4, if_true, d1, Nat.zero_add, w1, w2, w3]
  · exact ((k5.mono fun _ => False.elim).trans (hk6.mono fun k e => .inl e)).trans w5
end Ev

/- Chapter 14: CkptCut: which checkpoint is the newest; how the law's steps are joined. -/
namespace Ev
open Go (IntKind)

theorem tagW3 (q n i : Nat) : tagW 3 q n i = (3, (q : Int), (i : Int), (n : Int), 0, ()) := by
  unfold tagW
  rw [show seqW 3 q i = q from if_pos rfl]
theorem hit_tag {x : F8} {q n i k : Nat} (h1 : x.2.1 = 1) (ht : tagF x = tagW 3 q n k) (hk : k < n) : hit (tagW 3 q n i) x = true ∧ F8.ix x = (k : Int) := by
  rw [tagW3] at ht
  have t0 : x.2.2.1 = 3 := congrArg (fun t : T5 => t.1) ht
  have t1 : x.2.2.2.1 = (q : Int) := congrArg (fun t : T5 => t.2.1) ht
  have t2 : x.2.2.2.2.1 = (k : Int) := congrArg (fun t : T5 => t.2.2.1) ht
  have t3 : x.2.2.2.2.2.1 = (n : Int) := congrArg (fun t : T5 => t.2.2.2.1) ht
  refine ⟨?_, t2⟩
  rw [tagW3]
  unfold hit
  simp only [Bool.and_eq_true, decide_eq_true_eq]
  exact ⟨h1, t0, t3, by rw [t2]; show (k : Int) < (n : Int); omega, t1⟩
theorem nw_two {L : List F8} {n1 n2 m : Nat} (h1 : 1 ≤ n1)
    (g1 : ∀ x ∈ L, x.2.1 = 1 → (∃ i, i < n1 ∧ tagF x = tagW 3 5 n1 i) ∨ ∃ i, i < n2 ∧ i ≤ m ∧ tagF x = tagW 3 6 n2 i)
    (g2 : ∀ i, i < n1 → ∃ x ∈ L, x.2.1 = 1 ∧ tagF x = tagW 3 5 n1 i) :
    ∃ t, nw L L.length = some t ∧ ((t.2.1 = 5 ∧ T5.of t = (n1 : Int)) ∨ (t.2.1 = 6 ∧ T5.of t = (n2 : Int) ∧ n2 ≤ m + 1)) ∧ (1 ≤ n2 → (∀ i, i < n2 → ∃ x ∈ L, x.2.1 = 1 ∧ tagF x = tagW 3 6 n2 i) → t.2.1 = 6) := by
  obtain ⟨p1, p2⟩ := nw_from L L.length (Nat.le_refl _)
  rw [List.take_length] at p2
  have whole : ∀ q n : Nat, (∀ i, i < n → ∃ x ∈ L, x.2.1 = 1 ∧ tagF x = tagW 3 q n i) → Whole L (tagW 3 q n 0) := by
    intro q n h k hk
    have hk' : (k : Int) < (n : Int) := hk
    obtain ⟨x, x1, x2, x3⟩ := h k (by omega)
    obtain ⟨y1, y2⟩ := hit_tag (i := 0) x2 x3 (by omega)
    exact ⟨x, x1, y1, y2⟩
  have seq : ∀ {x : F8} {q n i : Nat}, tagF x = tagW 3 q n i → x.2.2.1 = 3 ∧ x.2.2.2.1 = (q : Int) := by
    intro x q n i h
    rw [tagW3] at h
    exact ⟨congrArg (fun t : T5 => t.1) h, congrArg (fun t : T5 => t.2.1) h⟩
  obtain ⟨x, x1, x2, x3⟩ := g2 0 (by omega)
  obtain ⟨t, ht, _⟩ := p2 x x1 x2 (seq x3).1 (by rw [x3]; exact whole 5 n1 g2)
  refine ⟨t, ht, ?_, fun hn2 g3 => ?_⟩
  · obtain ⟨y, y1, y2, y3, y4, y5⟩ := p1 t ht
    rcases g1 y y1 y2 with ⟨i, i1, i2⟩ | ⟨i, i1, i2, i3⟩
    · rw [y4, tagW3] at i2
      exact .inl ⟨by rw [i2]; rfl, by rw [i2]⟩
    · rw [y4, tagW3] at i3
      refine .inr ⟨by rw [i3]; rfl, by rw [i3], ?_⟩
      obtain ⟨u, u1, u2, u3⟩ := y5 (n2 - 1) (by rw [i3]; show ((n2 - 1 : Nat) : Int) < (n2 : Int); omega)
      obtain ⟨h5, _, _, _, h6⟩ := hit_seq u2
      rw [i3] at h6
      have h6 : u.2.2.2.1 = 6 := h6
      rcases g1 u u1 h5 with ⟨j, j1, j2⟩ | ⟨j, j1, j2, j3⟩
      · have := (seq j2).2; omega
      · rw [tagW3] at j3
        have : u.2.2.2.2.1 = (j : Int) := congrArg (fun t : T5 => t.2.2.1) j3
        have u3 : u.2.2.2.2.1 = ((n2 - 1 : Nat) : Int) := u3
        omega
  · obtain ⟨u, u1, u2, u3⟩ := g3 0 (by omega)
    obtain ⟨t', ht', hle⟩ := p2 u u1 u2 (seq u3).1 (by rw [u3]; exact whole 6 n2 g3)
    rw [ht] at ht'
    cases ht'
    rw [(seq u3).2] at hle
    obtain ⟨y, y1, y2, y3, y4, y5⟩ := p1 t ht
    rcases g1 y y1 y2 with ⟨i, i1, i2⟩ | ⟨i, i1, i2, i3⟩
    · rw [y4, tagW3] at i2
      rw [i2] at hle
      have : (6 : Int) ≤ 5 := hle
      omega
    · rw [y4, tagW3] at i3
      rw [i3]; rfl

theorem cut_join {x0 x1 : Sl} {x2 y : Int × Int × Int × Unit} {H H1 H2 H4 H5 H6 H7 H8 H9 H12 H14 H16 H17 H18 H19 H20 H21 H24 : Heap} {c w : Ptr} {B P S A er sq2 sq : Int} {t1 t2 u1 u2 u3 ps ps2 fl cs : Sl} {b o : Nat}
    (q1 : H ++ [Blk.cells [.int .i64 x2.1, .int .i64 x2.2.1, .int .u8 x2.2.2.1] .exact] = H1)
    (b1 : law13_Begun (0, 0, 0, ()) (⟨none, 0, 0⟩, ⟨none, 0, 0⟩, ⟨none, 0, 0⟩, ()) H1 = some ((c, w, true, ()), H2)) (g : nand_Chip_Geometry c H2 = some (((B, P, S, ()), ()), H4))
    (d1 : law14_good x0 H4 = some ((t1, ()), H5)) (d2 : law14_good x1 H5 = some ((t2, ()), H6)) (p1 : group_Pack t1 S H6 = some ((u1, ()), H7)) (p2 : group_Pack t2 S H7 = some ((u2, ()), H8))
    (hle : decide (28 < (IntKind.wrap .i64 ((u1.len : Int) + (u2.len : Int)))) = false) (c1 : ckpt_Write w t1 3 5 S H8 = some ((ps, 6, 0, ()), H9))
    (r10 : @Eq (Option (Int × Int × Int × Unit)) (rd H9 (.agg [.int .i64, .int .i64, .int .u8]) H.length 0) (some x2)) (w12 : wr (H9 ++ [Blk.cells [.int .i64 0, .int .i64 0, .int .u8 0] .exact]) H9.length 0 [.int .i64 x2.1, .int .i64 x2.2.1, .int .u8 x2.2.2.1] = some H12)
    (r13 : rdI .i64 H12 H.length 0 = some x2.1) (ew : IntKind.wrap .i64 (1 + bitsI .and .i64 x2.1 7) = A) (w14 : wr H12 H9.length 0 [.int .i64 A] = some H14)
    (r15 : @Eq (Option (Int × Int × Int × Unit)) (rd H14 (.agg [.int .i64, .int .i64, .int .u8]) H9.length 0) (some y)) (q16 : H14 ++ [Blk.cells [.int .i64 y.1, .int .i64 y.2.1, .int .u8 y.2.2.1] .exact] = H16)
    (arm : nand_Chip_Arm c (⟨some (H14.length, 0), 1, 1⟩, ⟨none, 0, 0⟩, ⟨none, 0, 0⟩, ()) H16 = some ((), H17)) (c2 : ckpt_Write w t2 3 6 S H17 = some ((ps2, sq2, er, ()), H18)) (pw : nand_Chip_Power c H18 = some ((), H19))
    (fd : law14_found w 32 H19 = some ((fl, ()), H20)) (nn : ckpt_Newest fl H20 = some ((cs, true, ()), H21)) (hcs : 0 < cs.len) (her : er = 0 ∨ er = 51) (p24 : group_Pack t2 S H21 = some ((u3, ()), H24))
    (r25 : rdI .i64 H24 H9.length 0 = some A) (r26 : rdI .i64 H24 H9.length 1 = some x2.2.1) (wS : IntKind.wrap .i64 (S + 32) = S + 32) (at0 : Sl.at 8 cs 0 = some (b, o)) (rs : rdI .u64 H24 b (o + 3) = some sq)
    (f1 : (er = 0 ∨ (A = (u3.len : Int) ∧ S + 32 ≤ x2.2.1)) → sq = 6 ∧ cs.len = u3.len) (f2 : (sq = 5 ∧ cs.len = ps.len) ∨ (sq = 6 ∧ cs.len = u3.len ∧ (A = (u3.len : Int) ∨ er = 0))) :
    law14_CkptCut x0 x1 x2 H = some ((true, ()), H24) := by
  unfold law14_CkptCut
  have hcd : decide ((cs.len : Int) = 0) = false := decide_eq_false (by omega)
  simp only [q1, b1, bind_some, awake14, Bool.not_true, cond_f, g, d1, d2, p1, p2, hle, c1, r10, w12, r13, ew, w14, r15, q16, arm, c2, pw, fd, nn, hcd, decide_true]
  rcases her with rfl | rfl
  · obtain ⟨e1, e2⟩ := f1 (.inl rfl)
    subst e1
    simp only [decide_true, Bool.not_true, cond_f, sum0, p24, bind_some, cond_t, at0, rs, e2]
  · have d51 : decide ((51 : Int) = 0) = false := rfl
    simp only [d51, Bool.not_false, cond_t, decide_true, Bool.not_true, cond_f, sum0, p24, bind_some, r25]
    by_cases hA : A = (u3.len : Int)
    · simp only [decide_eq_true hA, cond_t, r26, bind_some, wS]
      by_cases hS : S + 32 ≤ x2.2.1
      · obtain ⟨e1, e2⟩ := f1 (.inr ⟨hA, hS⟩)
        subst e1
        simp only [decide_eq_true hS, cond_t, at0, rs, bind_some, decide_true, e2]
      · simp only [decide_eq_false hS, cond_f, at0, rs, bind_some]
        rcases f2 with ⟨e1, e2⟩ | ⟨e1, e2, _⟩
        · subst e1
          simp only [decide_true, cond_t, e2]
        · subst e1
          have : decide ((6 : Int) = 5) = false := rfl
          simp only [this, cond_f, decide_true, cond_t, e2, r25, bind_some, decide_eq_true hA]
    · simp only [decide_eq_false hA, cond_f, bind_some, at0, rs]
      rcases f2 with ⟨e1, e2⟩ | ⟨e1, e2, e3⟩
      · subst e1
        simp only [decide_true, cond_t, e2]
      · rcases e3 with e3 | e3
        · exact absurd e3 hA
        · exact absurd e3 (by decide)
end Ev

/- Chapter 14: CkptCut. -/
namespace Ev
open Go (IntKind)

section
variable {N : Nat → Prop} {H : Heap} {z : WrA} {a : NdA} {e : LfA} {s : Nd} {v : Wr} {sb : Sl}
/-- The chip has other faults. -/
theorem WrAt.arm (h : WrAt N H z a e s v sb) {H' : Heap} {s' : Nd} {t1 t2 : Sl} (n : NdAt H' { a with cs := t1, fs := t2 } s') (kp : Keep a.fp H H') (c1 : ∀ k o, t1.p = some (k, o) → H.length ≤ k) (c2 : ∀ k o, t2.p = some (k, o) → H.length ≤ k) : WrAt N H' z { a with cs := t1, fs := t2 } e s' v sb where
  nd := n
  lf := h.lf.keep kp fun k hk hf => (h.d1 k (.inl hf)).1 hk
  cell := kp.get h.cell fun hf => (h.d1 _ (.inl hf)).2.1 rfl
  worn := by
    obtain ⟨bk, h1, h2⟩ := h.worn
    exact ⟨bk, h1, kp.get h2 fun hf => (h.d1 _ (.inl hf)).2.2.1 rfl⟩
  bads := h.bads.mono fun x hx => kp.same _ (h.bads.lt hx) fun hf => (h.d1 _ (.inl hf)).2.2.2 x.2 hx
  eB := h.eB
  d1 := by
    have key : ∀ k, H.length ≤ k → ¬ e.fp k ∧ k ≠ z.w ∧ k ≠ z.wb ∧ ∀ o, sb.p ≠ some (k, o) := fun k hk =>
      ⟨fun hf => by have := h.lt (k := k) (.inr (.inl hf)); omega, fun hf => by have := h.lt (k := k) (.inr (.inr (.inl hf))); omega, fun hf => by have := h.lt (k := k) (.inr (.inr (.inr (.inl hf)))); omega,
        fun o hf => by have := h.lt (k := k) (.inr (.inr (.inr (.inr ⟨o, hf⟩)))); omega⟩
    intro k hk
    rcases hk with hk | ⟨o, hk⟩ | ⟨o, hk⟩
    · exact h.d1 k (.inl hk)
    · exact key k (c1 k o hk)
    · exact key k (c2 k o hk)
  d2 := h.d2
  d3 := h.d3
  nN := by
    intro k hk hn
    have hlt := h.NL k hn
    rcases hk with (hk | ⟨o, hk⟩ | ⟨o, hk⟩) | hk
    · exact h.nN k (.inl (.inl hk)) hn
    · have := c1 k o hk; omega
    · have := c2 k o hk; omega
    · exact h.nN k (.inr hk) hn
  NL := fun k hk => Nat.lt_of_lt_of_le (h.NL k hk) kp.len
end
/-- What is found, out of what is read. -/
theorem found_facts {a : NdA} {s : Nd} {n1 n2 m : Nat} (h1 : 1 ≤ n1) (hn : n1 + n2 ≤ 28) (hm : m ≤ n2)
    (r1 : ∀ j, j < n1 → ∃ x, readW a s j = (tagW 3 5 n1 j, x, 0, ())) (r2 : ∀ i, i < m → ∃ x, readW a s (n1 + i) = (tagW 3 6 n2 i, x, 0, ()))
    (r3 : ∀ j, n1 + m ≤ j → (∃ er, readW a s j = (tag0, [], er, ()) ∧ er ≠ 0) ∨ (j = n1 + m ∧ m < n2 ∧ ∃ x, readW a s j = (tagW 3 6 n2 m, x, 0, ()))) {L : List F8} (hL : (List.range 32).map (fun j => foundF j (readW a s j)) = L) :
    (∀ x ∈ L, x.2.1 = 1 → (∃ i, i < n1 ∧ tagF x = tagW 3 5 n1 i) ∨ ∃ i, i < n2 ∧ i ≤ m ∧ tagF x = tagW 3 6 n2 i) ∧ (∀ i, i < n1 → ∃ x ∈ L, x.2.1 = 1 ∧ tagF x = tagW 3 5 n1 i) ∧
    (∀ i, i < m → ∃ x ∈ L, x.2.1 = 1 ∧ tagF x = tagW 3 6 n2 i) ∧ ((∃ x, readW a s (n1 + m) = (tagW 3 6 n2 m, x, 0, ())) → ∃ x ∈ L, x.2.1 = 1 ∧ tagF x = tagW 3 6 n2 m) ∧ L.length = 32 := by
  have put : ∀ j, j < 32 → ∀ q n i : Nat, (∃ x, readW a s j = (tagW 3 q n i, x, 0, ())) → ∃ x ∈ L, x.2.1 = 1 ∧ tagF x = tagW 3 q n i := by
    intro j hj q n i ⟨x, hx⟩
    refine ⟨foundF j (readW a s j), ?_, ?_, ?_⟩
    · rw [← hL]; exact List.mem_map.2 ⟨j, List.mem_range.2 hj, rfl⟩
    · rw [hx, foundF_yes]
    · rw [hx, foundF_yes]
  refine ⟨fun x hx x1 => ?_, fun i hi => put i (by omega) 5 n1 i (r1 i hi), fun i hi => put (n1 + i) (by omega) 6 n2 i (r2 i hi), fun h => ?_, by rw [← hL]; simp⟩
  · rw [← hL] at hx
    obtain ⟨j, hj, rfl⟩ := List.mem_map.1 hx
    by_cases c1 : j < n1
    · obtain ⟨t, ht⟩ := r1 j c1
      exact .inl ⟨j, c1, by rw [ht, foundF_yes]⟩
    · by_cases c2 : j < n1 + m
      · obtain ⟨t, ht⟩ := r2 (j - n1) (by omega)
        rw [show n1 + (j - n1) = j by omega] at ht
        exact .inr ⟨j - n1, by omega, by omega, by rw [ht, foundF_yes]⟩
      · rcases r3 j (by omega) with ⟨er, h2, h3⟩ | ⟨_, hm2, t, ht⟩
        · rw [h2, foundF_no h3] at x1
          exact absurd x1 (by show ¬ (0 : Int) = 1; decide)
        · exact .inr ⟨m, hm2, Nat.le_refl _, by rw [ht, foundF_yes]⟩
  · by_cases hmn : n1 + m < 32
    · exact put (n1 + m) hmn 6 n2 m h
    · omega
end Ev

/- Chapter 14: CkptCut, all of it. -/
namespace Ev
open Go (IntKind)

/-- What the law asks for at its end. -/
theorem cut_end {a : NdA} {s : Nd} {n1 n2 m : Nat} {L : List F8} {G : Heap} {cs : Sl} {er A keep : Int} (h1 : 1 ≤ n1) (h2 : 1 ≤ n2) (hn : n1 + n2 ≤ 28) (hm : m ≤ n2)
    (r1 : ∀ j, j < n1 → ∃ x, readW a s j = (tagW 3 5 n1 j, x, 0, ())) (r2 : ∀ i, i < m → ∃ x, readW a s (n1 + i) = (tagW 3 6 n2 i, x, 0, ()))
    (r3 : ∀ j, n1 + m ≤ j → (∃ er, readW a s j = (tag0, [], er, ()) ∧ er ≠ 0) ∨ (j = n1 + m ∧ m < n2 ∧ ∃ x, readW a s j = (tagW 3 6 n2 m, x, 0, ()))) (hL : (List.range 32).map (fun j => foundF j (readW a s j)) = L)
    (hc : Cur G L (nw L L.length) cs) (he : (er = 0 ∧ m = n2) ∨ (er = 51 ∧ m < n2 ∧ A = (m : Int) + 1)) (hk : m < n2 → (a.S : Int) + 32 ≤ keep → ∃ x, readW a s (n1 + m) = (tagW 3 6 n2 m, x, 0, ())) :
    ∃ sq b o, (nw L L.length).isSome = true ∧ 0 < cs.len ∧ Sl.at 8 cs 0 = some (b, o) ∧ rdI .u64 G b (o + 3) = some sq ∧ ((er = 0 ∨ (A = (n2 : Int) ∧ (a.S : Int) + 32 ≤ keep)) → sq = 6 ∧ cs.len = n2) ∧ ((sq = 5 ∧ cs.len = n1) ∨ (sq = 6 ∧ cs.len = n2 ∧ (A = (n2 : Int) ∨ er = 0))) := by
  obtain ⟨g1, g2, g3, g4, g5⟩ := found_facts h1 hn hm r1 r2 r3 hL
  obtain ⟨t, t1, t2, t3⟩ := nw_two h1 g1 g2
  rw [t1] at hc
  obtain ⟨b, o, b1, b2, _⟩ := Cur.seq hc
  have hc' := hc
  obtain ⟨n, pg, c0, c1, c2, _⟩ := hc'
  have hall : (er = 0 ∨ (A = (n2 : Int) ∧ (a.S : Int) + 32 ≤ keep)) → t.2.1 = 6 := by
    intro h
    refine t3 h2 fun i hi => ?_
    by_cases him : i < m
    · exact g3 i him
    · rcases he with ⟨e1, e2⟩ | ⟨e1, e2, e3⟩
      · omega
      · rcases h with h | ⟨h3, h4⟩
        · omega
        · have him : i = m := by omega
          rw [him]; exact g4 (hk e2 h4)
  refine ⟨t.2.1, b, o, by rw [t1]; rfl, by omega, b1, b2, fun h => ?_, ?_⟩
  · have h6 := hall h
    refine ⟨h6, ?_⟩
    rcases t2 with ⟨u1, u2⟩ | ⟨u1, u2, u3⟩
    · omega
    · omega
  · rcases t2 with ⟨u1, u2⟩ | ⟨u1, u2, u3⟩
    · exact .inl ⟨u1, by omega⟩
    · refine .inr ⟨u1, by omega, ?_⟩
      rcases he with ⟨e1, e2⟩ | ⟨e1, e2, e3⟩
      · exact .inr e1
      · exact .inl (by omega)

theorem CkptCut_true (x0 x1 : Sl) (x2 : Int × Int × Int × Unit) {A0 H : Heap} (hx0 : Came [.int .i64, .int .i64, .int .i64, .int .i64, .int .i64, .int .i64] [] x0 A0) (hx1 : Came [.int .i64, .int .i64, .int .i64, .int .i64, .int .i64, .int .i64] A0 x1 H) (hx2 : ∀ c ∈ Tup.mk [.int .i64, .int .i64, .int .u8] x2, wfC c) : ∃ H', law14_CkptCut x0 x1 x2 H = some ((true, ()), H') := by
  have no : ∀ {s : Sl} (b o : Nat), s.p = some (b, o) → ¬ False := fun _ _ _ => id
  obtain ⟨rows0, lr0, _, _, _⟩ := came_rows hx0
  obtain ⟨rows1, lr1, _, _, _⟩ := came_rows hx1
  have lr0 : Row A0 6 x0 (rowsR rows0) := lr0
  have lr1 : Row H 6 x1 (rowsR rows1) := lr1
  have lr0 := lr0.keep (came_stay hx1) no
  have hu8 : 0 ≤ x2.2.2.1 ∧ x2.2.2.1 < 256 := by
    have := hx2 (.int .u8 x2.2.2.1) (by simp [Tup.mk, CT.mk])
    have h' : 0 ≤ x2.2.2.1 ∧ x2.2.2.1 ≤ 255 := this
    omega
  have an := and_ones (k := .i64) (x := x2.1) (m := 7) 3 (by decide) (by decide)
  have ew : IntKind.wrap .i64 (1 + bitsI .and .i64 x2.1 7) = 1 + bitsI .and .i64 x2.1 7 := wrap_i64 (by omega) (by omega)
  generalize hA : 1 + bitsI .and .i64 x2.1 7 = A at ew
  have hA1 : 1 ≤ A ∧ A ≤ 8 := by omega
  -- the chip and its writer
  have k01 : Keep (fun _ => False) H (H ++ [cutB x2]) := Keep.push _ _ _
  have hcb1 : (H ++ [cutB x2])[H.length]? = some (cutB x2) := app_last
  obtain ⟨H2, a, e, z, b1, b2, b3, ⟨hB0, hB1, hP0, hP1, hS0, hS1⟩, i0, w0⟩ := begun13n (H ++ [cutB x2]) (0, 0, 0, ())
  obtain ⟨H4, g1, g2, g3⟩ := nand_geometry b2.nd
  have k04 := (k01.trans b3).trans g3
  obtain ⟨t1, H5, K1, d1, d2, d3⟩ := good_eq (lr0.keep k04 no)
  have k05 := k04.trans d2.keep
  obtain ⟨t2, H6, K2, e1, e2, e3⟩ := good_eq (lr1.keep k05 no)
  have rt1 := d2.row.keep e2.keep no
  have rt2 := e2.row
  obtain ⟨u1, H7, p1, p2⟩ := pack_eq rt1 (by omega) (size := a.S) ⟨by omega, by omega⟩
  have rt1 := rt1.keep p2.keep no
  have rt2 := rt2.keep p2.keep no
  obtain ⟨u2, H8, p3, p4⟩ := pack_eq rt2 (by omega) (size := a.S) ⟨by omega, by omega⟩
  have rt1 := rt1.keep p4.keep no
  have rt2 := rt2.keep p4.keep no
  have k28 := (((g3.trans d2.keep).trans e2.keep).trans p2.keep).trans p4.keep
  have hlu1 := p2.row.txt_len
  have hlu2 := p4.row.txt_len
  obtain ⟨hT1, hT2, hT3⟩ := packF_ok a.S (by omega) K1
  obtain ⟨hV1, hV2, hV3⟩ := packF_ok a.S (by omega) K2
  have ewl : IntKind.wrap .i64 ((u1.len : Int) + (u2.len : Int)) = (((packF a.S K1).length + (packF a.S K2).length : Nat) : Int) := by rw [wrap_i64 (by omega) (by omega)]; omega
  by_cases h28 : 28 < (packF a.S K1).length + (packF a.S K2).length
  · refine ⟨H8, ?_⟩
    have q1 : H ++ [Blk.cells [.int .i64 x2.1, .int .i64 x2.2.1, .int .u8 x2.2.2.1] .exact] = H ++ [cutB x2] := rfl
    have hd : decide ((28 : Int) < (((packF a.S K1).length + (packF a.S K2).length : Nat) : Int)) = true := decide_eq_true (by omega)
    unfold law14_CkptCut
    simp only [q1, b1, bind_some, awake14, Bool.not_true, cond_f, g1, d1, e1, p1, p3, ewl, hd, cond_t]
  have hle : decide ((28 : Int) < (IntKind.wrap .i64 ((u1.len : Int) + (u2.len : Int)))) = false := by rw [ewl]; exact decide_eq_false (by omega)
  have hBP : 32 ≤ a.B * a.P := Nat.mul_le_mul (show 8 ≤ a.B from hB0) (show 4 ≤ a.P from hP0)
  -- the first checkpoint
  have hw8 := b2.grow k28 fun _ h => h.elim
  obtain ⟨ps, sq, er, H9, M9, s1, v1, sb1, c1, c2, c3, c4, c5, c6⟩ := write_all (K := 3) (q := 5) (size := a.S) (recs := K1) hw8 (OnL.new a (by omega)) w0 (by decide) rt1 d3 ⟨by omega, Nat.le_refl _, by omega⟩ (.inr rfl) (by decide) (by show 0 + _ ≤ _; omega)
  rcases c6 with ⟨rfl, hsq, m1, _, _, m4, _⟩ | ⟨_, m, y, _, hy, _⟩
  rotate_left
  · cases hy
  have hsq : sq = 6 := hsq
  subst hsq
  have m4 : OnL a s1 v1 0 [] (pgsW 3 5 (packF a.S K1) (packF a.S K1).length) := m4
  have k18 : Keep (fun _ => False) (H ++ [cutB x2]) H8 := b3.trans k28
  have hl1 : (H ++ [cutB x2]).length = H.length + 1 := by simp
  have cb8 := k18.get hcb1 id
  have cb9 : H9[H.length]? = some (cutB x2) := c4.get cb8 fun hn => hn (.inl (by show H.length < (H ++ [cutB x2]).length; omega))
  have t2N : ∀ b o, t2.p = some (b, o) → b < (H ++ [cutB x2]).length ∨ (H2.length ≤ b ∧ b < H8.length) := fun b o ho => .inr ⟨by
    have h1 := e2.new _ ho
    have h2 := (g3.trans d2.keep).len
    have h3 : H5.length ≤ b := h1
    omega, by
    have h1 := e2.gr.lt ho
    have h2 := (p2.keep.trans p4.keep).len
    have h3 : b < H6.length := h1
    omega⟩
  have rt9 := rt2.keep c4 fun b o ho hn => hn (t2N b o ho)
  let y : Int × Int × Int × Unit := (A, x2.2.1, x2.2.2.1, ())
  have w12 : wr (H9 ++ [Blk.cells [.int .i64 0, .int .i64 0, .int .u8 0] .exact]) H9.length 0 [.int .i64 x2.1, .int .i64 x2.2.1, .int .u8 x2.2.2.1] = some (H9 ++ [cutB x2]) := by
    rw [wr_last (by decide) (by simp)]; rfl
  have w14 : wr (H9 ++ [cutB x2]) H9.length 0 [.int .i64 A] = some (H9 ++ [cutB y]) := by
    unfold cutB
    rw [wr_last (by decide) (by simp)]; rfl
  have k916 : Keep (fun _ => False) H9 ((H9 ++ [cutB y]) ++ [cutB y]) := (Keep.push _ _ _).trans (Keep.push _ _ _)
  have hw16 := c2.grow k916 fun _ h => h.elim
  have hcr : Row ((H9 ++ [cutB y]) ++ [cutB y]) 3 ⟨some ((H9 ++ [cutB y]).length, 0), 1, 1⟩ (cutC [y]) := ⟨row_last rfl, fun h => by cases h⟩
  generalize hH16 : (H9 ++ [cutB y]) ++ [cutB y] = H16 at k916 hw16 hcr
  have cb16 : H16[H9.length]? = some (cutB y) := by
    rw [← hH16, app_lt (by simp)]; exact app_last
  have l916 : H9.length + 2 = H16.length := by rw [← hH16]; simp
  generalize hM16 : (fun j => M9 j ∨ (H9.length ≤ j ∧ j < H16.length)) = M16 at hw16
  obtain ⟨H17, q1, q2, arm, n17, k17, n1', n2'⟩ := nand_arm (f := (⟨some ((H9 ++ [cutB y]).length, 0), 1, 1⟩, ⟨none, 0, 0⟩, ⟨none, 0, 0⟩, ())) (cuts := [y]) (fails := []) hw16.nd hcr (Row.ni _ 1 0) (by simp) (by decide)
  have hw17 := hw16.arm n17 k17 n1' n2'
  have k17' := hw16.nc k17
  have sub16 : ∀ k, M9 k → M16 k := fun k hk => by rw [← hM16]; exact .inl hk
  have in16 : M16 H9.length := by rw [← hM16]; exact .inr ⟨Nat.le_refl _, by omega⟩
  have t2M : ∀ b o, t2.p = some (b, o) → M16 b := fun b o ho => sub16 b (c3 b (t2N b o ho))
  have rt17 := (rt9.keep k916 no).keep k17' fun b o ho hn => hn (t2M b o ho)
  have o17 : OnL { a with cs := q1, fs := q2 } { s1 with cuts := [y], fails := [], did := 0 } v1 (-((packF a.S K1).length : Int)) [y] (pgsW 3 5 (packF a.S K1) (packF a.S K1).length) :=
    ⟨m4.off, by rw [pgsW_len]; show (0 : Int) = _; omega, rfl, rfl, m4.dead, (by obtain ⟨b, q, f, h⟩ := m4.fll; exact ⟨b, q, ⟨f.l, f.op, f.nx, f.q, f.worn, f.bad⟩, h⟩), m4.std, m4.emp⟩
  have wf17 : Wf { a with cs := q1, fs := q2 } { s1 with cuts := [y], fails := [], did := 0 } 1000 :=
    ⟨⟨Int.le_refl 0, by show (0 : Int) ≤ 1000; decide⟩, fun b => by have := (c5.le (show (0 : Int) + 30 ≤ 1000 by decide) (by decide)).worn b; exact this, fun x hx => by
      have : x = y := by simpa using hx
      rw [this]; exact hu8, c5.fine, by decide, c5.sz⟩
  -- the second one
  obtain ⟨ps2, sq2, er, H18, M18, s2, v2, sb2, f1, f2, f3, f4, f5, f6⟩ := write_all (K := 3) (q := 6) (size := a.S) (recs := K2) hw17 o17 wf17 (by decide) rt17 e3 ⟨by omega, Nat.le_refl _, by show a.S ≤ 1000; omega⟩ (.inr rfl) (by decide) (by rw [pgsW_len]; show _ ≤ a.B * a.P; omega)
  obtain ⟨H19, pw, n19, k19⟩ := nand_power f2.nd
  have hw19 := f2.chip n19 k19
  have k19' := f2.nc k19
  have wf19 : Wf { a with cs := q1, fs := q2 } ({ s2 with off := false } : Nd) (1000 + 30) := ⟨f5.did, f5.worn, f5.cuts, f5.fine, f5.small, f5.sz⟩
  obtain ⟨fl, H20, M20, fd, f20, _, k20, rfl20, _⟩ := foundall_eq hw19 wf19 (n := 32) (by decide)
  generalize hL : (List.range 32).map (fun j => foundF j (readW { a with cs := q1, fs := q2 } ({ s2 with off := false } : Nd) j)) = L at rfl20
  generalize hT : packF a.S K1 = T at *
  generalize hV : packF a.S K2 = V at *
  have hTl : T.length + V.length ≤ 28 := by omega
  have hgT : ∀ j, j < T.length → T.getD j [] ∈ T := fun j hj => by
    have : T.getD j [] = T[j] := by simp [List.getD, hj]
    rw [this]; exact List.getElem_mem _
  have hgV : ∀ j, j < V.length → V.getD j [] ∈ V := fun j hj => by
    have : V.getD j [] = V[j] := by simp [List.getD, hj]
    rw [this]; exact List.getElem_mem _
  -- what is read
  have rd : ∀ m, m ≤ V.length → (∀ b q, q < a.P → ∀ y, (pgsW 3 5 T T.length ++ pgsW 3 6 V m)[b * a.P + q]? = some y → s2.pages b q = frameB a (y.1.worn 0) y.2) →
      (∀ j, j < T.length → ∃ x, readW { a with cs := q1, fs := q2 } ({ s2 with off := false } : Nd) j = (tagW 3 5 T.length j, x, 0, ())) ∧ ∀ i, i < m → ∃ x, readW { a with cs := q1, fs := q2 } ({ s2 with off := false } : Nd) (T.length + i) = (tagW 3 6 V.length i, x, 0, ()) := by
    intro m hm std
    refine ⟨fun j hj => ⟨T.getD j [], ?_⟩, fun i hi => ⟨V.getD i [], ?_⟩⟩
    · exact read_std (a := { a with cs := q1, fs := q2 }) (s := ({ s2 with off := false } : Nd)) (y := (tagW 3 5 T.length j, T.getD j [])) rfl (by show a.S ≤ 1000; omega) std (by show 0 < a.P; omega) (by show j < a.B * a.P; omega) (by rw [List.getElem?_append_left (by rw [pgsW_len]; exact hj)]; exact pgsW_get 3 5 T hj) (tagW_ok (.inr rfl) hj (by omega)) (show (0 : Int) ≤ 5 ∧ (5 : Int) < 18446744073709551616 from ⟨by decide, by decide⟩) (hT3 _ (hgT j hj))
    · exact read_std (a := { a with cs := q1, fs := q2 }) (s := ({ s2 with off := false } : Nd)) (y := (tagW 3 6 V.length i, V.getD i [])) rfl (by show a.S ≤ 1000; omega) std (by show 0 < a.P; omega) (by show T.length + i < a.B * a.P; omega) (by rw [List.getElem?_append_right (by rw [pgsW_len]; omega), pgsW_len, Nat.add_sub_cancel_left]; exact pgsW_get 3 6 V hi) (tagW_ok (.inr rfl) (show i < V.length by omega) (by omega)) (show (0 : Int) ≤ 6 ∧ (6 : Int) < 18446744073709551616 from ⟨by decide, by decide⟩) (hV3 _ (hgV i (by omega)))
  have facts : ∃ m, m ≤ V.length ∧ ((er = 0 ∧ m = V.length) ∨ (er = 51 ∧ m < V.length ∧ A = (m : Int) + 1)) ∧ (∀ j, j < T.length → ∃ x, readW { a with cs := q1, fs := q2 } ({ s2 with off := false } : Nd) j = (tagW 3 5 T.length j, x, 0, ())) ∧ (∀ i, i < m → ∃ x, readW { a with cs := q1, fs := q2 } ({ s2 with off := false } : Nd) (T.length + i) = (tagW 3 6 V.length i, x, 0, ())) ∧
      (∀ j, T.length + m ≤ j → (∃ er, readW { a with cs := q1, fs := q2 } ({ s2 with off := false } : Nd) j = (tag0, [], er, ()) ∧ er ≠ 0) ∨ (j = T.length + m ∧ m < V.length ∧ ∃ x, readW { a with cs := q1, fs := q2 } ({ s2 with off := false } : Nd) j = (tagW 3 6 V.length m, x, 0, ()))) ∧
      (m < V.length → (a.S : Int) + 32 ≤ x2.2.1 → ∃ x, readW { a with cs := q1, fs := q2 } ({ s2 with off := false } : Nd) (T.length + m) = (tagW 3 6 V.length m, x, 0, ())) := by
    rcases f6 with ⟨g1, _, _, _, _, g6, _⟩ | ⟨g1, m, yy, g2, g3, g4⟩
    · obtain ⟨r1, r2⟩ := rd V.length (Nat.le_refl _) g6.std
      refine ⟨V.length, Nat.le_refl _, .inl ⟨g1, rfl⟩, r1, r2, fun j hj => .inl (read_emp' (a := { a with cs := q1, fs := q2 }) (s := ({ s2 with off := false } : Nd)) (n := T.length + V.length) (fun b q hq hle => g6.emp b q hq (by rw [List.length_append, pgsW_len, pgsW_len]; exact hle)) (by show 0 < a.P; omega) hj), fun h => absurd h (Nat.lt_irrefl _)⟩
    · obtain ⟨r1, r2⟩ := rd m (by omega) g4.std
      have hyy : yy = y ∧ A = (m : Int) + 1 := by
        rw [pgsW_len] at g3
        by_cases hc : A = -(T.length : Int) + (T.length : Int) + (m : Int) + 1
        · have : ([y] : List Cut).find? (fun x => x.1 == -(T.length : Int) + (T.length : Int) + (m : Int) + 1) = some y := by
            have hb : (y.1 == -(T.length : Int) + (T.length : Int) + (m : Int) + 1) = true := beq_iff_eq.2 hc
            simp only [List.find?, hb]
          rw [this] at g3
          exact ⟨(Option.some.inj g3).symm, by omega⟩
        · have : ([y] : List Cut).find? (fun x => x.1 == -(T.length : Int) + (T.length : Int) + (m : Int) + 1) = none := by
            have hb : (y.1 == -(T.length : Int) + (T.length : Int) + (m : Int) + 1) = false := beq_eq_false_iff_ne.2 hc
            simp only [List.find?, hb]
          rw [this] at g3
          cases g3
      obtain ⟨rfl, hAm⟩ := hyy
      have hxl : (V.getD m []).length ≤ a.S := hV3 _ (hgV m g2)
      have hfl := frameB_length (a := a) (t := tagW 3 6 V.length m) (s := V.getD m []) hxl
      have hPp : 0 < a.P := by omega
      have hdm := Nat.div_add_mod (T.length + m) a.P
      have hml := Nat.mod_lt (T.length + m) hPp
      have hjj : (T.length + m) / a.P * a.P + (T.length + m) % a.P = T.length + m := by rw [Nat.mul_comm]; exact hdm
      have hbb : (T.length + m) / a.P < a.B := (Nat.div_lt_iff_lt_mul hPp).2 (by omega)
      have htorn : s2.pages ((T.length + m) / a.P) ((T.length + m) % a.P) = if tornB y (frameB a (tagW 3 6 V.length m) (V.getD m [])) = fullP a then [] else tornB y (frameB a (tagW 3 6 V.length m) (V.getD m [])) := g4.torn _ _ hml (by rw [hjj, List.length_append, pgsW_len, pgsW_len])
      refine ⟨m, by omega, .inr ⟨g1, g2, hAm⟩, r1, r2, fun j hj => ?_, fun _ hkeep => ?_⟩
      · by_cases hj2 : j = T.length + m
        · have := read_cut (a := { a with cs := q1, fs := q2 }) (s := ({ s2 with off := false } : Nd)) rfl hbb hml (by show a.S ≤ 1000; omega) (y := y) (by decide : 6 < 4294967296) g2 (by omega) hxl htorn
          rw [hj2]
          have hjj' : (T.length + m) / a.P * ({ a with cs := q1, fs := q2 } : NdA).P + (T.length + m) % a.P = T.length + m := hjj
          rw [hjj'] at this
          rcases this with h | h
          · exact .inl h
          · exact .inr ⟨rfl, g2, h⟩
        · exact .inl (read_emp' (a := { a with cs := q1, fs := q2 }) (s := ({ s2 with off := false } : Nd)) (n := T.length + m + 1) (fun b q hq hle => g4.emp b q hq (by rw [List.length_append, pgsW_len, pgsW_len]; exact hle)) hPp (by omega))
      · have hall : tornB y (frameB a (tagW 3 6 V.length m) (V.getD m [])) = frameB a (tagW 3 6 V.length m) (V.getD m []) := torn_all (by rw [hfl]; show ((a.S + 32 : Nat) : Int) ≤ x2.2.1; omega)
        rw [hall, if_neg (frame_ne_full hxl)] at htorn
        have := read_told (a := { a with cs := q1, fs := q2 }) (s := ({ s2 with off := false } : Nd)) rfl hbb hml htorn (tagW_ok (.inr rfl) g2 (by omega)) (show (0 : Int) ≤ 6 ∧ (6 : Int) < 18446744073709551616 from ⟨by decide, by decide⟩) (by show a.S < 65536; omega) hxl
        have hjj' : (T.length + m) / a.P * ({ a with cs := q1, fs := q2 } : NdA).P + (T.length + m) % a.P = T.length + m := hjj
        rw [hjj'] at this
        exact ⟨_, this⟩
  obtain ⟨m, hm, he, r1, r2, r3, r4⟩ := facts
  obtain ⟨j1, _, _, _, j5⟩ := found_facts hT1 hTl hm r1 r2 r3 hL
  have fok : ∀ x ∈ L, x.2.1 = 1 → 0 ≤ F8.ix x ∧ 1 ≤ x.2.2.2.2.2.1 ∧ x.2.2.2.2.2.1 ≤ 100000 := by
    intro x hx h1
    rcases j1 x hx h1 with ⟨i, i1, i2⟩ | ⟨i, i1, _, i2⟩
    · rw [tagW3] at i2
      have t2 : x.2.2.2.2.1 = (i : Int) := congrArg (fun t : T5 => t.2.2.1) i2
      have t3 : x.2.2.2.2.2.1 = (T.length : Int) := congrArg (fun t : T5 => t.2.2.2.1) i2
      exact ⟨by show 0 ≤ x.2.2.2.2.1; omega, by omega, by omega⟩
    · rw [tagW3] at i2
      have t2 : x.2.2.2.2.1 = (i : Int) := congrArg (fun t : T5 => t.2.2.1) i2
      have t3 : x.2.2.2.2.2.1 = (V.length : Int) := congrArg (fun t : T5 => t.2.2.2.1) i2
      exact ⟨by show 0 ≤ x.2.2.2.2.1; omega, by omega, by omega⟩
  obtain ⟨cs, H21, nn, k21, cu⟩ := newest_eq rfl20 (fun x hx h => (fok x hx h).1) (fun x hx h => (fok x hx h).2) (by omega)
  have rt21 := (((rt17.keep f4 fun b o ho hn => hn (t2M b o ho)).keep k19' fun b o ho hn => hn (f3 b (t2M b o ho))).keep k20 no).keep k21 no
  obtain ⟨u3, H24, p24, g24⟩ := pack_eq rt21 (by omega) (size := a.S) ⟨by omega, by omega⟩
  rw [hV] at g24
  have hlu3 := g24.row.txt_len
  obtain ⟨sq, b, o, z1, z2, z3, z4, z5, z6⟩ := cut_end (A := A) (keep := x2.2.1) hT1 hV1 hTl hm r1 r2 r3 hL (cu.keep g24.keep) he r4
  have cb17 := k17'.get cb16 fun hn => hn in16
  have cb18 := f4.get cb17 fun hn => hn in16
  have cb19 := k19'.get cb18 fun hn => hn (f3 _ in16)
  have cb24 := g24.keep.get (k21.get (k20.get cb19 id) id) id
  have z5' : (er = 0 ∨ (A = (u3.len : Int) ∧ (a.S : Int) + 32 ≤ x2.2.1)) → sq = 6 ∧ cs.len = u3.len := by
    rw [hlu3]; exact z5
  have z6' : (sq = 5 ∧ cs.len = ps.len) ∨ (sq = 6 ∧ cs.len = u3.len ∧ (A = (u3.len : Int) ∨ er = 0)) := by
    rw [hlu3, m1]; exact z6
  rw [z1] at nn
  refine ⟨H24, cut_join (y := y) rfl b1 g1 d1 e1 p1 p3 hle c1 (rd_agg_of (ts := [.int .i64, .int .i64, .int .u8]) cb9 (Nat.le_refl 3) rfl) w12 (rdI_of (by rw [app_lt (get_lt cb9)]; exact cb9) rfl) (by rw [hA]; exact ew) w14 (rd_agg_of (ts := [.int .i64, .int .i64, .int .u8]) app_last (Nat.le_refl 3) rfl) hH16 arm f1 pw fd nn z2 (he.elim (fun h => .inl h.1) fun h => .inr h.1) p24 (rdI_of cb24 rfl) (rdI_of cb24 rfl) (wrap_i64 (by omega) (by omega)) z3 z4 z5' z6'⟩
end Ev
