/- CellPlays: Whatever is written, erased and read, whatever fails, and whatever bits turn, as long as each page can be made right: it answers as a chip whose bits never turn. -/
import Derived.Test.YtpebaginkkbnpaaGreatSLaw30r
import Derived.Test.YtpebaginkkbnpaaGreatSCame
import Derived.Test.YtpebaginkkbnpaaGreatSLaw30n
namespace Ev
open Go (IntKind)

abbrev ActR := Int × Int × Int × Bytes × Unit
def actT : List CT := [.int .i64, .int .i64, .int .i64, .str]

/-- Both side by side, behind so many acts. -/
structure Both (B0 : Nat) (q : CeA) (a : NdA) (x2 : Sl) (l : List ActR) (i : Nat) (G : Heap) (t : Ce) (z : Nd) : Prop where
  ce : CeAt G q t
  nd : NdAt G a z
  rel : PlR q t z
  w1 : Wf q.a t.s i
  w2 : Wf a z i
  row : Row G 4 x2 (rowsOf actT l)
  reads : 0 ≤ t.reads ∧ t.reads ≤ i
  low : ∀ k, q.own k → k < B0
  high : ∀ k, a.own k → B0 ≤ k
  xq : ∀ k o, x2.p = some (k, o) → ¬ q.own k ∧ ¬ a.own k

section
variable {B0 : Nat} {q : CeA} {a : NdA} {x2 : Sl} {l : List ActR} {i : Nat} {G : Heap} {t : Ce} {z : Nd}
theorem ce_fp_own {q : CeA} {k : Nat} (h : q.fp k) : q.own k := by
  rcases h with h | h | h
  · exact .inl h
  · exact .inr (.inl h)
  · exact .inr (.inr (.inl (.inl h)))
theorem Both.keepq (h : Both B0 q a x2 l i G t z) {G' : Heap} (k : Keep q.fp G G') : NdAt G' a z ∧ Row G' 4 x2 (rowsOf actT l) :=
  ⟨h.nd.keep k fun j hj hf => by have := h.low j (ce_fp_own hf); have := h.high j hj; omega, h.row.keep k fun b o hp hf => (h.xq b o hp).1 (ce_fp_own hf)⟩
theorem Both.push (h : Both B0 q a x2 l i G t z) (x : Blk) : Both B0 q a x2 l i (G ++ [x]) t z :=
  { h with ce := h.ce.push x, nd := h.nd.push x, row := h.row.push x }

theorem row_bool {H : Heap} {s : Sl} {n : Nat} {f : Nat → Bool} (h : Row H 1 s (arrC n fun i => [.bool (f i)])) {i : Nat} (hi : i < n) : ∃ b o, Sl.at 1 s (i : Int) = some (b, o) ∧ rdB H b o = some (f i) := by
  have hl := h.len
  rw [arrC_length (es := 1) (fun _ => rfl)] at hl
  obtain ⟨b, o, hp, h1, cs, bk, h2, h3, h4⟩ := slRow_cell h.row (i := i) (by omega) h.nil
  refine ⟨b, _, h1, rdB_of h2 ?_⟩
  have h5 := h4 0 (by decide)
  rw [Nat.add_zero] at h5
  rw [h5]
  have := arrC_get (f := fun k => [C.bool (f k)]) (es := 1) (fun _ => rfl) (j := 0) (by decide) hi
  rw [this]; rfl

theorem Both.reach (h : Both B0 q a x2 l i G t z) : B0 ≤ G.length ∧ ∀ k, a.fp k → k < G.length := by
  refine ⟨?_, fun k hk => ?_⟩
  · have := h.high a.c (.inl (.inl rfl))
    have := get_lt h.nd.cell
    omega
  · rcases hk with rfl | rfl | ⟨j, hj, rfl⟩
    · exact get_lt h.nd.cell
    · exact get_lt h.nd.blks
    · exact get_lt (h.nd.pgs j hj)
theorem Both.fresh (h : Both B0 q a x2 l i G t z) : ¬ q.fp G.length ∧ ¬ a.fp G.length := by
  obtain ⟨h1, h2⟩ := h.reach
  exact ⟨fun hf => by have := h.low _ (ce_fp_own hf); omega, fun hf => by have := h2 _ hf; omega⟩
theorem Both.keepa (h : Both B0 q a x2 l i G t z) {G' : Heap} (k : Keep a.fp G G') : CeAt G' q t ∧ Row G' 4 x2 (rowsOf actT l) :=
  ⟨h.ce.keep k fun j hj hf => by have := h.low j hj; have := h.high j (.inl hf); omega, h.row.keep k fun b o hp hf => (h.xq b o hp).2 (.inl hf)⟩

abbrev actB (v : ActR) : Blk := .cells [.int .i64 v.1, .int .i64 v.2.1, .int .i64 v.2.2.1, .str v.2.2.2.1] .exact

set_option maxHeartbeats 4000000 in
/-- One act. -/
theorem Both.act (h : Both B0 q a x2 l i G t z) (hq : Std q) (ha : a.B = 8 ∧ a.P = 4 ∧ a.S = 64) (hi : i < l.length) (h60 : i < 60) (hlen : x2.len = l.length) {r14 r17 : (Ptr × Int × Unit) × Heap} (e1 : r14.1.1 = some (q.c, 0)) (e2 : r17.1.1 = some (a.c, 0)) :
    (∃ G' t' z', law30_CellPlays.s1 x2 r14 r17 ((i : Int), ()) G = some (.inl (((i + 1 : Nat) : Int), ()), G') ∧ Both B0 q a x2 l (i + 1) G' t' z') ∨ ∃ G', law30_CellPlays.s1 x2 r14 r17 ((i : Int), ()) G = some (.inr (.inr (true, ())), G') := by
  have haS : q.a.S = 72 := by have := h.ce.aS; rw [hq.R] at this; omega
  obtain ⟨rb, ro, _, a1, _, cs, bk, a2, a3, a4⟩ := Row.at (cts := actT) h.row hi (by decide)
  have a5 : @Eq (Option (Int × Int × Int × Bytes × Unit)) (rd G (.agg [.int .i64, .int .i64, .int .i64, .str]) rb ro) (some l[i]) := by
    refine rd_agg_of a2 a3 ?_
    have h4' : (cs.drop ro).take 4 = Tup.mk actT l[i] := a4
    show Tup.un actT ((cs.drop ro).take 4) = some l[i]
    rw [h4']; rfl
  have a1' : Sl.at 4 x2 (i : Int) = some (rb, ro) := a1
  generalize l[i] = v at a5
  obtain ⟨vk, vb, vp, vs, u⟩ := v
  have hw := wrap_succ (show i < 9223372036854775807 by omega)
  have w0 : wr (G ++ [Blk.cells [.int .i64 0, .int .i64 0, .int .i64 0, .str []] .exact]) G.length 0 [.int .i64 vk, .int .i64 vb, .int .i64 vp, .str vs] = some (G ++ [.cells [.int .i64 vk, .int .i64 vb, .int .i64 vp, .str vs] .exact]) := wr_last (by decide) (by simp)
  have hB := h.push (.cells [.int .i64 vk, .int .i64 vb, .int .i64 vp, .str vs] .exact)
  have hv : (G ++ [Blk.cells [.int .i64 vk, .int .i64 vb, .int .i64 vp, .str vs] .exact])[G.length]? = some (.cells [.int .i64 vk, .int .i64 vb, .int .i64 vp, .str vs] .exact) := app_last
  obtain ⟨fq, fa⟩ := h.fresh
  obtain ⟨L, hL⟩ : ∃ L, L = G.length := ⟨_, rfl⟩
  rw [← hL] at hv fq fa
  obtain ⟨G1, hG1⟩ : ∃ x, x = G ++ [Blk.cells [.int .i64 vk, .int .i64 vb, .int .i64 vp, .str vs] .exact] := ⟨_, rfl⟩
  rw [← hG1] at hB hv
  have rk : ∀ {K : Heap}, K[L]? = some (.cells [.int .i64 vk, .int .i64 vb, .int .i64 vp, .str vs] .exact) → rdI .i64 K L 0 = some vk ∧ rdI .i64 K L 1 = some vb ∧ rdI .i64 K L 2 = some vp ∧ rdS K L 3 = some vs := fun hk => ⟨rdI_of hk rfl, rdI_of hk rfl, rdI_of hk rfl, rdS_of hk rfl⟩
  obtain ⟨g0, g1, g2, g3⟩ := rk hv
  have h64 : law30_text vs 64 = some (textF vs 64, ()) := text_eq _ 64 (by decide)
  have h32 : law30_text vs 32 = some (textF vs 32, ()) := text_eq _ 32 (by decide)
  have start : ∀ {X : Type} (f : Heap → Option X), (wr (G ++ [Blk.cells [.int .i64 0, .int .i64 0, .int .i64 0, .str []] .exact]) G.length 0 [.int .i64 vk, .int .i64 vb, .int .i64 vp, .str vs]).bind f = f G1 := fun f => by rw [w0, hG1]; rfl
  have hx : decide ((i : Int) < (x2.len : Int)) = true := decide_eq_true (by omega)
  have hy : decide ((i : Int) < 60) = true := decide_eq_true (by omega)
  unfold law30_CellPlays.s1
  simp only [hx, hy, cond_t, a1', bind_some, a5, start, e1, e2]
  simp only [← hL, g0, g1, g2, g3, bind_some, h64, h32]
  have hcast : ((i + 1 : Nat) : Int) = (i : Int) + 1 := by omega
  by_cases k01 : vk = 0 ∨ vk = 1
  · have hc : (cond (decide (vk = 0)) (some (((decide (vk = 0)), ()), G1)) (some (((decide (vk = 1)), ()), G1)) : Option ((Bool × Unit) × Heap)) = some ((true, ()), G1) := by
      rcases k01 with rfl | rfl <;> rfl
    simp only [hc, bind_some, cond_t, g1, g2]
    left
    obtain ⟨G2, c1, c2, c3⟩ := ce_program hB.ce hB.w1 vb vp (textF vs 64) (textF vs 32) ⟨by rw [textF_len]; decide, by rw [textF_len]; decide⟩
    obtain ⟨n0, row0⟩ := hB.keepq c3
    obtain ⟨_, j1, j2, _⟩ := rk (c3.get hv fq)
    obtain ⟨G3, d1, d2, d3⟩ := nand_programT n0 hB.w2 vb vp (textF vs 64) (textF vs 32)
    obtain ⟨p1, p2⟩ := plays_prog hB.rel hq ha haS vb vp (textF_len vs 64) (textF_len vs 32)
    simp only [c1, bind_some, j1, j2, if_pos, d1, p1, decide_true, Bool.not_true, cond_f, hw]
    refine ⟨G3, _, _, rfl, ⟨c2.keep d3 fun j hj hf => ?_, d2, p2, ?_, ?_, row0.keep d3 fun b o hp hf => (h.xq b o hp).2 (.inl hf), ?_, h.low, h.high, h.xq⟩⟩
    · have := h.low j hj; have := h.high j (.inl hf); omega
    · rw [hcast]; exact progC_wf hB.w1 (by omega) _ _ _ _
    · rw [hcast]; exact (hB.w2.progT (by omega) _ _ _ _).1
    · have hr := hB.reads
      have : (progC q t vb vp (textF vs 64) (textF vs 32)).2.reads = t.reads := by
        unfold progC; split; · rfl
        split <;> rfl
      rw [this]; omega
  · have hc : (cond (decide (vk = 0)) (some (((decide (vk = 0)), ()), G1)) (some (((decide (vk = 1)), ()), G1)) : Option ((Bool × Unit) × Heap)) = some ((false, ()), G1) := by
      rw [decide_eq_false (show ¬ vk = 0 from fun e => k01 (.inl e)), decide_eq_false (show ¬ vk = 1 from fun e => k01 (.inr e))]; rfl
    simp only [hc, bind_some, cond_f]
    by_cases k2 : vk = 2
    · simp only [decide_eq_true k2, cond_t, g1, bind_some]
      left
      obtain ⟨G2, c1, c2, c3⟩ := ce_erase hB.ce hB.w1 vb
      obtain ⟨n0, row0⟩ := hB.keepq c3
      obtain ⟨_, j1, j2, _⟩ := rk (c3.get hv fq)
      obtain ⟨G3, d1, d2, d3⟩ := nand_eraseT n0 hB.w2 vb
      obtain ⟨p1, p2⟩ := plays_erase hB.rel hq ha vb
      simp only [c1, bind_some, j1, j2, if_pos, d1, p1, decide_true, Bool.not_true, cond_f, hw]
      refine ⟨G3, _, _, rfl, ⟨c2.keep d3 fun j hj hf => ?_, d2, p2, ?_, ?_, row0.keep d3 fun b o hp hf => (h.xq b o hp).2 (.inl hf), ?_, h.low, h.high, h.xq⟩⟩
      · have := h.low j hj; have := h.high j (.inl hf); omega
      · rw [hcast]; exact eraC_wf hB.w1 (by omega) _
      · rw [hcast]; exact (hB.w2.eraseT (by omega) _).1
      · have hr := hB.reads
        have : (eraC q t vb).2.reads = t.reads := rfl
        rw [this]; omega
    · simp only [decide_eq_false k2, cond_f, g1, g2, bind_some]
      have hrd := hB.reads
      -- what both reads come to
      have body : ∀ o, (t.s.inE q.a vb vp = 0 → 16 < zbs (rawX q (t.turned q) vb.toNat vp.toNat) → DecIs q (t.seed + q.num vb vp) (rawX q (t.turned q) vb.toNat vp.toNat) o ∧ (o.2.2 = 0 → o.1.length = q.S + 32)) →
          ∃ G2 G3, cell_Cells_Read (some (q.c, 0)) vb vp G1 = some ((readC q t vb vp o).1, G2) ∧ nand_Chip_Read (some (a.c, 0)) vb vp G2 = some (z.readT a vb vp, G3) ∧ CeAt G3 q (readC q t vb vp o).2 ∧ NdAt G3 a z ∧ Row G3 4 x2 (rowsOf actT l) ∧ G2[L]? = some (.cells [.int .i64 vk, .int .i64 vb, .int .i64 vp, .str vs] .exact) ∧ G3[L]? = some (.cells [.int .i64 vk, .int .i64 vb, .int .i64 vp, .str vs] .exact) := by
        intro o ho
        obtain ⟨G2, c1, c2, c3⟩ := ce_read hB.ce hB.w1 (by omega) vb vp o ho
        obtain ⟨n0, row0⟩ := hB.keepq c3
        obtain ⟨G3, d1, d2, d3⟩ := nand_readT n0 hB.w2 vb vp
        exact ⟨G2, G3, c1, d1, c2.keep d3 fun _ _ => id, d2, row0.keep d3 fun _ _ _ => id, c3.get hv fq, d3.get (c3.get hv fq) id⟩
      by_cases he : t.s.inE q.a vb vp = 0
      · obtain ⟨_, bi, pi, rfl, rfl, hbi, hpi⟩ := in_zero he
        have hb8 : bi < 8 := by have := hq.1; omega
        have hp4 : pi < 4 := by have := hq.2.1; omega
        have hz0 : (z.readT a (bi : Int) (pi : Int)).2.2.1 = 0 := by
          unfold Nd.readT
          rw [if_neg (by rw [h.rel.inE hq ha, he]; decide)]
        by_cases hgood : t.s.dead bi = false ∧ ¬ (zbs (t.s.read q.a bi pi) ≤ 40 ∧ zbs (t.s.read q.a bi pi) ≠ 0)
        · left
          obtain ⟨o, o1, o2, o3⟩ := plays_read h.rel hq h.ce.sh ha haS hrd.1 hb8 hp4 hgood.1 hgood.2
          obtain ⟨G2, G3, c1, d1, ca, na, ro3, bl2, bl3⟩ := body o (fun _ => by rw [Int.toNat_natCast, Int.toNat_natCast]; exact o1)
          obtain ⟨_, j1, j2, _⟩ := rk bl2
          obtain ⟨_, m1, m2, _⟩ := rk bl3
          obtain ⟨s1, s2, s3⟩ := readC_s q t (bi : Int) (pi : Int) o
          obtain ⟨s4, s5⟩ := readC_X o he
          obtain ⟨G4, f1, f2, f3⟩ := nearly_eq (D := i) (b := bi) (p := pi) ca (by rw [s1]; exact h.w1) hbi hpi (by rw [s1]; exact h.rel.off.1)
          rw [s1] at f1
          rw [decide_eq_false hgood.2] at f1
          have na4 := na.keep f3 fun _ _ => id
          have bl4 := f3.get bl3 id
          obtain ⟨_, y1, y2, _⟩ := rk bl4
          obtain ⟨td, G5, u1, u2, u3, u4⟩ := nand_dead na4
          obtain ⟨bb, oo, x1, x3⟩ := row_bool u2 (i := bi) (by rw [ha.1]; exact hb8)
          have bl5 := u4.get bl4 id
          obtain ⟨_, q1, q2, _⟩ := rk bl5
          have hdz : z.dead bi = false := by rw [h.rel.dead]; exact hgood.1
          rw [hdz] at x3
          simp only [c1, bind_some, j1, j2, d1, hz0, decide_true, cond_t, m1, m2, f1, cond_f, y1, u1, x1, x3, q1, if_pos, Sum.elim_inl, o2, Bool.not_true, hw]
          refine ⟨G5, _, _, rfl, ⟨(f2.keep u4 fun _ _ => id), u3, o3, ?_, ?_, (ro3.keep f3 fun _ _ _ => id).keep u4 fun _ _ _ => id, ?_, h.low, h.high, h.xq⟩⟩
          · rw [s1, hcast]; exact h.w1.le (by omega) (by omega)
          · rw [hcast]; exact h.w2.le (by omega) (by omega)
          · rw [s5]; omega
        · right
          have hlr : (rawX q (t.turned q) bi pi).length = 104 := by
            have hf := turn_fl hq (q.num (bi : Int) (pi : Int)) (t.reads + 1) t.N t.X _ h.rel.tame (h.rel.fl (q.num (bi : Int) (pi : Int)))
            have := read_len h.ce h.w1 bi pi
            rw [hq.R] at this
            exact mixX_len this hf.len
          obtain ⟨o, o1, o2⟩ := dec_near hq h.ce.sh (t.seed + q.num (bi : Int) (pi : Int)) hlr
          obtain ⟨G2, G3, c1, d1, ca, na, ro3, bl2, bl3⟩ := body o (fun _ _ => ⟨by rw [Int.toNat_natCast, Int.toNat_natCast]; exact o1, fun h0 => by
            rcases o2 with rfl | ⟨c, c1, _, _, _, c2⟩
            · exact absurd h0 (by decide)
            · rw [c2, hq.2.2.1, mixF_len, List.length_take, c1, maskF_len]; rfl⟩)
          obtain ⟨_, j1, j2, _⟩ := rk bl2
          obtain ⟨_, m1, m2, _⟩ := rk bl3
          obtain ⟨s1, s2, s3⟩ := readC_s q t (bi : Int) (pi : Int) o
          obtain ⟨G4, f1, f2, f3⟩ := nearly_eq (D := i) (b := bi) (p := pi) ca (by rw [s1]; exact h.w1) hbi hpi (by rw [s1]; exact h.rel.off.1)
          rw [s1] at f1
          by_cases hnear : zbs (t.s.read q.a bi pi) ≤ 40 ∧ zbs (t.s.read q.a bi pi) ≠ 0
          · rw [decide_eq_true hnear] at f1
            simp only [c1, bind_some, j1, j2, d1, hz0, decide_true, cond_t, m1, m2, f1, Sum.elim_inr]
            exact ⟨_, rfl⟩
          · rw [decide_eq_false hnear] at f1
            have hdz : z.dead bi = true := by
              rw [h.rel.dead]
              cases hd : t.s.dead bi with
              | true => rfl
              | false => exact absurd ⟨hd, hnear⟩ hgood
            have na4 := na.keep f3 fun _ _ => id
            have bl4 := f3.get bl3 id
            obtain ⟨_, y1, y2, _⟩ := rk bl4
            obtain ⟨td, G5, u1, u2, u3, u4⟩ := nand_dead na4
            obtain ⟨bb, oo, x1, x3⟩ := row_bool u2 (i := bi) (by rw [ha.1]; exact hb8)
            have bl5 := u4.get bl4 id
            obtain ⟨_, q1, q2, _⟩ := rk bl5
            rw [hdz] at x3
            simp only [c1, bind_some, j1, j2, d1, hz0, decide_true, cond_t, m1, m2, f1, cond_f, y1, u1, x1, x3, q1, if_pos, Sum.elim_inr]
            exact ⟨_, rfl⟩
      · left
        have hez : z.inE a vb vp ≠ 0 := by rw [h.rel.inE hq ha]; exact he
        obtain ⟨G2, G3, c1, d1, ca, na, ro3, bl2, bl3⟩ := body ([], 0, 0) (fun h0 => absurd h0 he)
        obtain ⟨_, j1, j2, _⟩ := rk bl2
        have rc : readC q t vb vp ([], 0, 0) = (([], [], t.s.inE q.a vb vp, ()), { t with hw := 0, wk := false }) := by unfold readC; rw [if_pos he]
        have rz : z.readT a vb vp = ([], [], t.s.inE q.a vb vp, ()) := by unfold Nd.readT; rw [if_pos hez, h.rel.inE hq ha]
        rw [rc] at c1 ca
        rw [rz] at d1
        simp only [c1, bind_some, j1, j2, d1, decide_eq_false he, cond_f, Sum.elim_inl, decide_true, Bool.not_true, hw]
        refine ⟨G3, _, _, rfl, ⟨ca, na, { h.rel with }, ?_, ?_, ro3, ?_, h.low, h.high, h.xq⟩⟩
        · rw [hcast]; exact h.w1.le (by omega) (by omega)
        · rw [hcast]; exact h.w2.le (by omega) (by omega)
        · show 0 ≤ t.reads ∧ t.reads ≤ _; omega
end
end Ev
