/- Chapter 13: WriteCuts. -/
import Derived.Test.YtloijdlakkmjgaaSLaw13F
namespace Ev
open Go (IntKind)

def txtB : Bytes := [116, 101, 120, 116]
theorem opened_nxt {e : LfA} {v v1 : Wr} {r : Bool} {b : Nat} (h : Opened e v r v1) (n : Nxt e v b) : r = true ∧ v1 = v.opn b := by
  rcases h with ⟨h1, hr, rfl⟩ | ⟨h1, hr, c, hc, hf, hm, rfl⟩ | ⟨h1, _, h2, _⟩
  · exact ⟨hr, by unfold Wr.opn; rw [if_neg (by omega)]⟩
  · rcases n with n | ⟨_, hb, hbf, hbm⟩
    · omega
    · have hcb : c = b := by
        have h2 := hm b hb hbf
        have h3 := hbm c hc hf
        by_cases hlt : c < b
        · have := h3.2 hlt; omega
        · by_cases hgt : b < c
          · have := h2.2 hgt; omega
          · omega
      exact ⟨hr, by unfold Wr.opn; rw [if_pos h1, hcb]⟩
  · rcases n with n | ⟨_, hb, hbf, _⟩
    · omega
    · exact absurd hbf (h2 b hb)
theorem at_inj2 {P b q b' q' : Nat} (hq : q < P) (hq' : q' < P) (h : b * P + q = b' * P + q') : b = b' ∧ q = q' := by
  have h1 := divP b q P hq
  have h2 := divP b' q' P hq'
  rw [h] at h1
  omega
/-- The pages that were told. -/
def Std (a : NdA) (s : Nd) (n : Nat) : Prop := ∀ b q, q < a.P → b * a.P + q < n → s.pages b q = frameB a ((tagN (b * a.P + q)).worn 0) txtB
structure OnI (a : NdA) (s : Nd) (v : Wr) (y : Cut) (k : Nat) : Prop where
  off : s.off = false
  did : s.did = (k : Int)
  cuts : s.cuts = [y]
  fails : s.fails = []
  dead : ∀ i, s.dead i = false
  fll : ∃ b q, FllV a v b q ∧ k = b * a.P + q
  std : Std a s k
  emp : ∀ b q, q < a.P → k ≤ b * a.P + q → s.pages b q = []
structure OffI (a : NdA) (s : Nd) (v : Wr) (n : Nat) : Prop where
  off : s.off = true
  va : v.lf.op < 0 ∨ ∃ b : Nat, b < a.B ∧ v.lf.op = (b : Int) ∧ v.lf.nx < a.P
  worn : ∀ i, v.worn i = 0
  bad : v.bad = []
  std : Std a s n
section
variable {N : Nat → Prop} {H : Heap} {z : WrA} {a : NdA} {e : LfA} {s : Nd} {v : Wr} {sb : Sl} {D : Int} {y : Cut} {k : Nat}
/-- A page is written while the power is on. -/
theorem on_app (h : WrAt N H z a e s v sb) (o : OnI a s v y k) (hk : k < a.B * a.P) (hk2 : k < 100) (w : Wf a s D) (hD : D + 100 ≤ 1000000) (hS : 4 ≤ a.S) {m : Nat} (hm : m = k) :
    ∃ H' p er s' v' sb', write_Writer_Append (some (z.w, 0)) (tagN m) txtB H = some ((p, er, ()), H') ∧ WrAt N H' z a e s' v' sb' ∧ Keep (fun k => ¬ N k) H H' ∧ Wf a s' (D + 1) ∧ ((er = 0 ∧ y.1 ≠ (k : Int) + 1 ∧ OnI a s' v' y (k + 1)) ∨ (er = 51 ∧ OffI a s' v' k)) := by
  subst hm
  obtain ⟨eB, eP⟩ := h.eB
  have hsz := w.sz
  obtain ⟨b, q, f, hbq⟩ := o.fll
  have hq := f.q
  have hb : b < a.B := by
    by_cases hb : b < a.B
    · exact hb
    · have := Nat.mul_le_mul_right a.P (show a.B ≤ b by omega)
      omega
  obtain ⟨n1, n2, n3, n4, n5, n6⟩ := f.nxt eB hb
  have hx : txtB.length ≤ a.S := hS
  have hemp : ∀ q', (v.opn b).lf.nx ≤ q' → q' < a.P → s.pages b q' = [] := fun q' h1 h2 => o.emp b q' h2 (by omega)
  have h0 : s.inE a (b : Int) ((v.opn b).lf.nx : Int) = 0 := inE_yes o.off hb (by omega)
  have hdl := dataOf_length hx
  have hww : (v.opn b).worn b = 0 := by rw [n5]; exact f.worn b
  have hsl := spareOf_length ((tagN m).worn ((v.opn b).worn b)) txtB a.S
  have htry : tryW a s (tagN m) txtB (v.opn b) b = s.program a b (v.opn b).lf.nx (frameB a ((tagN m).worn 0) txtB) := by
    unfold tryW Nd.progT
    rw [if_neg (by rw [h0]; simp), if_neg (by rw [hdl, hsl]; omega), Int.toNat_natCast, Int.toNat_natCast, used_false hemp, hww]
    simp only [Bool.false_eq_true, if_false]
    rfl
  have hwp : Wf a (tryW a s (tagN m) txtB (v.opn b) b).2 (D + 1) := (w.progT (by omega) (b : Int) ((v.opn b).lf.nx : Int) (dataOf txtB a.S) (spareOf ((tagN m).worn ((v.opn b).worn b)) txtB a.S)).1
  have hcn : s.cutNow = if y.1 = (m : Int) + 1 then some y else none := by
    unfold Nd.cutNow
    rw [o.cuts, o.did]
    by_cases hy : y.1 = (m : Int) + 1
    · rw [if_pos hy]; simp [List.find?, hy]
    · have hyf : (y.1 == (m : Int) + 1) = false := beq_eq_false_iff_ne.2 hy
      rw [if_neg hy]; simp [List.find?, hyf]
  have hlay : ∀ T, ∀ k r, ¬ (k = b ∧ r = q) → (s.acted.lay a b (v.opn b).lf.nx T).pages k r = s.pages k r := fun T k r hne => by
    rw [lay_there (by rw [n2]; exact hne)]; rfl
  obtain ⟨H', p, er, s', v', sb', r1, r2, r3, r4, r5⟩ := write_Append_run (J := fun s' v' => s' = s ∧ v' = v) (Q := fun s' v' p er => Wf a s' (D + 1) ∧ ((er = 0 ∧ y.1 ≠ (m : Int) + 1 ∧ OnI a s' v' y (m + 1)) ∨ (er = 51 ∧ OffI a s' v' m))) (fun _ _ => 0) h (tag_ok (n := m) (by omega)) (tagN_seq (by omega) (w := 0)) hx (by omega)
    ⟨rfl, rfl⟩ (by
      rintro s' v' ⟨rfl, rfl⟩
      refine ⟨⟨D, w, by omega⟩, by rw [f.bad]; decide, fun r v1 op => ?_⟩
      obtain ⟨rfl, rfl⟩ := opened_nxt op n1
      refine ⟨fun hh => (by cases hh), fun _ => ⟨b, by omega, n3, by omega, by rw [hww]; exact tag_ok (by omega), ?_⟩⟩
      by_cases hy : y.1 = (m : Int) + 1
      · rw [if_pos hy] at hcn
        have hp : tryW a s' (tagN m) txtB (v'.opn b) b = (51, s'.acted.lay a b (v'.opn b).lf.nx (tornB y (frameB a ((tagN m).worn 0) txtB))) := by
          rw [htry]
          unfold Nd.program
          rw [hcn]
        rw [hp] at hwp ⊢
        refine ⟨fun hh => (by cases hh), fun hh => (by cases hh), fun hh => (by cases hh), fun _ _ _ => ⟨hwp, .inr ⟨rfl, ?_, ?_, fun i => ?_, ?_, fun b1 q1 hq1 hlt => ?_⟩⟩⟩
        · show (s'.off || s'.cutNow.isSome) = true
          rw [hcn]; simp
        · show ((v'.opn b).lf.took e b).op < 0 ∨ ∃ c : Nat, c < a.B ∧ ((v'.opn b).lf.took e b).op = (c : Int) ∧ ((v'.opn b).lf.took e b).nx < a.P
          unfold Lf.took
          split
          · left; show (-1 : Int) < 0; decide
          · right; exact ⟨b, hb, n3, by show (v'.opn b).lf.nx + 1 < a.P; omega⟩
        · show (v'.opn b).worn i = 0
          rw [n5]; exact f.worn i
        · show (v'.opn b).bad = []
          rw [n6]; exact f.bad
        · rw [hlay _ b1 q1 (fun ⟨e1, e2⟩ => by subst e1; subst e2; omega)]
          exact o.std b1 q1 hq1 hlt
      · rw [if_neg hy] at hcn
        have hp : tryW a s' (tagN m) txtB (v'.opn b) b = (0, s'.acted.lay a b (v'.opn b).lf.nx (frameB a ((tagN m).worn 0) txtB)) := by
          rw [htry]
          exact program_ok hcn (o.dead b) (failNow_nil o.fails)
        rw [hp] at hwp ⊢
        refine ⟨fun _ => ⟨hwp, .inl ⟨rfl, hy, ?_⟩⟩, fun hh => (by cases hh), fun hh => (by cases hh), fun hh => absurd rfl hh⟩
        refine ⟨?_, ?_, o.cuts, o.fails, o.dead, ⟨_, _, f.step eB eP hb, next_at hbq hq⟩, fun b1 q1 hq1 hlt => ?_, fun b1 q1 hq1 hle => ?_⟩
        · show (s'.off || s'.cutNow.isSome) = false
          rw [hcn, o.off]; rfl
        · show s'.did + 1 = ((m + 1 : Nat) : Int)
          rw [o.did]; omega
        · by_cases he : b1 = b ∧ q1 = q
          · obtain ⟨rfl, rfl⟩ := he
            have := lay_here (a := a) (s := s'.acted) (b := b1) (p := (v'.opn b1).lf.nx) (t := (tagN m).worn 0) hx
            rw [n2] at this ⊢
            rw [this, ← hbq]
          · rw [hlay _ b1 q1 he]
            refine o.std b1 q1 hq1 ?_
            by_cases heq : b1 * a.P + q1 = m
            · exact absurd (at_inj2 hq1 hq (heq.trans hbq)) he
            · omega
        · by_cases he : b1 = b ∧ q1 = q
          · obtain ⟨rfl, rfl⟩ := he
            omega
          · rw [hlay _ b1 q1 he]
            exact o.emp b1 q1 hq1 (by omega))
  exact ⟨H', p, er, s', v', sb', r1, r2, r3, r4, r5⟩
/-- A page is written while the power is off. -/
theorem off_app (h : WrAt N H z a e s v sb) {n : Nat} (o : OffI a s v n) (w : Wf a s D) (hD : D + 100 ≤ 1000000) (hS : 4 ≤ a.S) {m : Nat} (hm : m < 100) :
    ∃ H' p er s' v' sb', write_Writer_Append (some (z.w, 0)) (tagN m) txtB H = some ((p, er, ()), H') ∧ WrAt N H' z a e s' v' sb' ∧ Keep (fun k => ¬ N k) H H' ∧ Wf a s' D ∧ (er = 130 ∨ er = 51) ∧ OffI a s' v' n := by
  obtain ⟨eB, eP⟩ := h.eB
  have hsz := w.sz
  have hx : txtB.length ≤ a.S := hS
  obtain ⟨H', p, er, s', v', sb', r1, r2, r3, r4, r5, r6⟩ := write_Append_run (J := fun s' v' => s' = s ∧ v' = v) (Q := fun s' v' p er => Wf a s' D ∧ (er = 130 ∨ er = 51) ∧ OffI a s' v' n) (fun _ _ => 0) h (tag_ok (n := m) (by omega)) (tagN_seq (by omega) (w := 0)) hx (by omega)
    ⟨rfl, rfl⟩ (by
      rintro s' v' ⟨rfl, rfl⟩
      refine ⟨⟨D, w, by omega⟩, by rw [o.bad]; decide, fun r v1 op => ?_⟩
      have key : r = false ∧ v1 = v' ∨ r = true ∧ ∃ b, b < a.B ∧ v1.lf.op = (b : Int) ∧ v1.lf.nx < a.P ∧ v1.worn = v'.worn ∧ v1.bad = v'.bad := by
        rcases op with ⟨h1, hr, rfl⟩ | ⟨h1, hr, c, hc, hf, hm, rfl⟩ | ⟨h1, hr, h2, rfl⟩
        · rcases o.va with hh | ⟨b, hb, ho, hn⟩
          · omega
          · exact .inr ⟨hr, b, hb, ho, hn, rfl, rfl⟩
        · exact .inr ⟨hr, c, by omega, rfl, by show 0 < a.P; omega, rfl, rfl⟩
        · exact .inl ⟨hr, rfl⟩
      rcases key with ⟨rfl, rfl⟩ | ⟨rfl, b, hb, ho, hn, hw, hbd⟩
      · exact ⟨fun _ => ⟨w, .inl rfl, o⟩, fun hh => (by cases hh)⟩
      · have hp : tryW a s' (tagN m) txtB v1 b = (51, s') := by
          unfold tryW Nd.progT
          have : s'.inE a (b : Int) (v1.lf.nx : Int) = 51 := by unfold Nd.inE; rw [if_pos o.off]
          rw [this]
          rfl
        have hw1 : v1.worn b = 0 := by rw [hw]; exact o.worn b
        refine ⟨fun hh => (by cases hh), fun _ => ⟨b, by omega, ho, by omega, by rw [hw1]; exact tag_ok (by omega), ?_⟩⟩
        rw [hp]
        refine ⟨fun hh => (by cases hh), fun hh => (by cases hh), fun hh => (by cases hh), fun _ _ _ => ⟨w, .inr rfl, o.off, ?_, fun i => ?_, ?_, o.std⟩⟩
        · show (v1.lf.took e b).op < 0 ∨ ∃ c : Nat, c < a.B ∧ (v1.lf.took e b).op = (c : Int) ∧ (v1.lf.took e b).nx < a.P
          unfold Lf.took
          split
          · left; show (-1 : Int) < 0; decide
          · right; exact ⟨b, hb, ho, by show v1.lf.nx + 1 < a.P; omega⟩
        · show v1.worn i = 0
          rw [hw]; exact o.worn i
        · show v1.bad = []
          rw [hbd]; exact o.bad)
  exact ⟨H', p, er, s', v', sb', r1, r2, r3, r4, r5, r6⟩
end
theorem cuts_join {x0 x1 y : Geo} {x2 A : Int} {H0 HA H2 H5 H7 H9 H1 R R1 R2 : Heap} {a : NdA} {z : WrA} {m : Nat} {off : Bool}
    (q1 : H0 ++ [Blk.cells [.int .i64 x0.1, .int .i64 x0.2.1, .int .i64 x0.2.2.1] .exact] = HA) (q2 : HA ++ [Blk.cells [.int .i64 x1.1, .int .i64 x1.2.1, .int .u8 x1.2.2.1] .exact] = H2)
    (r1 : @Eq (Option (Int × Int × Int × Unit)) (rd H2 (.agg [.int .i64, .int .i64, .int .u8]) HA.length 0) (some x1)) (w1 : wr (H2 ++ [Blk.cells [.int .i64 0, .int .i64 0, .int .u8 0] .exact]) H2.length 0 [.int .i64 x1.1, .int .i64 x1.2.1, .int .u8 x1.2.2.1] = some H5)
    (r2 : rdI .i64 H5 HA.length 0 = some x1.1) (ew : IntKind.wrap .i64 (1 + bitsI .and .i64 x1.1 31) = A) (w2 : wr H5 H2.length 0 [.int .i64 A] = some H7)
    (r3 : @Eq (Option (Int × Int × Int × Unit)) (rd H7 (.agg [.int .i64, .int .i64, .int .i64]) H0.length 0) (some x0)) (r4 : @Eq (Option (Int × Int × Int × Unit)) (rd H7 (.agg [.int .i64, .int .i64, .int .u8]) H2.length 0) (some y))
    (q9 : H7 ++ [Blk.cells [.int .i64 y.1, .int .i64 y.2.1, .int .u8 y.2.2.1] .exact] = H9)
    (b1 : law13_Begun x0 (⟨some (H7.length, 0), 1, 1⟩, ⟨none, 0, 0⟩, ⟨none, 0, 0⟩, ()) H9 = some ((some (a.c, 0), some (z.w, 0), true, ()), H1))
    (l1 : loopW (law13_WriteCuts.s1 x2 ((some (a.c, 0), some (z.w, 0), true, ()), H1)) (0, false, 0, ()) H1 = some (.inl ((m : Int), off, ()), R)) (p1 : nand_Chip_Power (some (a.c, 0)) R = some ((), R1))
    (l2 : loopW (law13_WriteCuts.s2 ((some (a.c, 0), some (z.w, 0), true, ()), H1) ((m : Int), off, ())) (0, ()) R1 = some (.inl (), R2)) (ry : rdI .i64 R2 H2.length 0 = some A) (hw3 : IntKind.wrap .i64 (A - 1) = A - 1) (hm : (m : Int) ≤ A - 1) :
    law13_WriteCuts.on x0 x1 x2 H0 = some (true, ()) := by
  unfold law13_WriteCuts.on
  have eg : (x0.1, x0.2.1, x0.2.2.1, ()) = x0 := rfl
  simp only [q1, q2, r1, bind_some, w1, r2, ew, w2, r3, r4, q9, eg, b1, awake13, Bool.not_true, cond_f, l1, sum0, p1, l2, ry, hw3, decide_eq_true hm, cond_t]
theorem WriteCuts_true (x0 x1 : Geo) (x2 : Int) (_ : ∀ c ∈ Tup.mk [.int .i64, .int .i64, .int .i64] x0, wfC c) (hx1 : ∀ c ∈ Tup.mk [.int .i64, .int .i64, .int .u8] x1, wfC c) (_ : wfC (.int .i64 x2)) : law13_WriteCuts x0 x1 x2 = some (true, ()) := by
  unfold law13_WriteCuts
  have hu8 : 0 ≤ x1.2.2.1 ∧ x1.2.2.1 < 256 := by
    have := hx1 (.int .u8 x1.2.2.1) (by simp [Tup.mk, CT.mk])
    have h' : 0 ≤ x1.2.2.1 ∧ x1.2.2.1 ≤ 255 := this
    omega
  have an := and_ones (k := .i64) (x := x1.1) (m := 31) 5 (by decide) (by decide)
  obtain ⟨A, hA⟩ : ∃ A : Nat, 1 + bitsI .and .i64 x1.1 31 = (A : Int) := ⟨(1 + bitsI .and .i64 x1.1 31).toNat, (Int.toNat_of_nonneg (by omega)).symm⟩
  have hA1 : 1 ≤ A ∧ A ≤ 32 := by omega
  have ew : IntKind.wrap .i64 (1 + bitsI .and .i64 x1.1 31) = (A : Int) := by rw [hA]; exact wrap_i64 (by omega) (by omega)
  have am := and_ones (k := .i64) (x := x2) (m := 63) 6 (by decide) (by decide)
  obtain ⟨n, hn⟩ : ∃ n : Nat, bitsI .and .i64 x2 63 = (n : Int) := ⟨(bitsI .and .i64 x2 63).toNat, (Int.toNat_of_nonneg am.1).symm⟩
  have hn1 : n ≤ 63 := by omega
  let y : Cut := ((A : Int), x1.2.1, x1.2.2.1, ())
  let gB : Blk := .cells [.int .i64 x0.1, .int .i64 x0.2.1, .int .i64 x0.2.2.1] .exact
  let H2 : Heap := [gB, cutB x1]
  let H5 : Heap := [gB, cutB x1, cutB x1]
  let H7 : Heap := [gB, cutB x1, cutB y]
  let H9 : Heap := [gB, cutB x1, cutB y, cutB y]
  have q1 : ([] : Heap) ++ [Blk.cells [.int .i64 x0.1, .int .i64 x0.2.1, .int .i64 x0.2.2.1] .exact] = [gB] := rfl
  have q2 : [gB] ++ [Blk.cells [.int .i64 x1.1, .int .i64 x1.2.1, .int .u8 x1.2.2.1] .exact] = H2 := rfl
  have r1 : @Eq (Option (Int × Int × Int × Unit)) (rd H2 (.agg [.int .i64, .int .i64, .int .u8]) [gB].length 0) (some x1) := rfl
  have w1 : wr (H2 ++ [Blk.cells [.int .i64 0, .int .i64 0, .int .u8 0] .exact]) H2.length 0 [.int .i64 x1.1, .int .i64 x1.2.1, .int .u8 x1.2.2.1] = some H5 := rfl
  have r2 : rdI .i64 H5 [gB].length 0 = some x1.1 := rfl
  have w2 : wr H5 H2.length 0 [.int .i64 (A : Int)] = some H7 := rfl
  have r3 : @Eq (Option (Int × Int × Int × Unit)) (rd H7 (.agg [.int .i64, .int .i64, .int .i64]) ([] : Heap).length 0) (some x0) := rfl
  have r4 : @Eq (Option (Int × Int × Int × Unit)) (rd H7 (.agg [.int .i64, .int .i64, .int .u8]) H2.length 0) (some y) := rfl
  have q9 : H7 ++ [Blk.cells [.int .i64 y.1, .int .i64 y.2.1, .int .u8 y.2.2.1] .exact] = H9 := rfl
  have eg : (x0.1, x0.2.1, x0.2.2.1, ()) = x0 := rfl
  have s1 : Sl.sub 3 ⟨some (H7.length, 0), 1, 1⟩ 0 (if 8 < ((1 : Nat) : Int) then 8 else ((1 : Nat) : Int)) ((1 : Nat) : Int) = some ⟨some (H7.length, 0), 1, 1⟩ := rfl
  have hrow : Row H9 3 ⟨some (H7.length, 0), 1, 1⟩ (cutC [y]) := ⟨row_last (H := H7) rfl, fun hh => by cases hh⟩
  obtain ⟨H1, a, e, z, b1, b2, b3, hB0, hB1, hP0, hP1, hS0, hS1⟩ := begun13 (H := H9) (f1 := ⟨some (H7.length, 0), 1, 1⟩) (f2 := ⟨none, 0, 0⟩) (f3 := ⟨none, 0, 0⟩) (t2 := ⟨none, 0, 0⟩) (cuts := [y]) (fails := []) x0 s1 rfl hrow (Row.ni _ 1 0) (by simp) (by decide)
  have hBP : 32 ≤ a.B * a.P := Nat.mul_le_mul (show 8 ≤ a.B by omega) (show 4 ≤ a.P by omega)
  have hBP2 : a.B * a.P ≤ 165 := Nat.mul_le_mul (show a.B ≤ 15 by omega) (show a.P ≤ 11 by omega)
  have w0 := Wf.new' (a := a) (cuts := [y]) (fails := []) (fun x hx => by
    have : x = y := by simpa using hx
    rw [this]; exact hu8) (by omega)
  have o0 : OnI a (Nd.new [y] [] []) Wr.new y 0 := ⟨rfl, rfl, rfl, rfl, fun i => (by show decide ((i : Int) ∈ ([] : List Int)) = false; simp), ⟨0, 0, FllV.new a (by omega), by omega⟩, fun b q _ hh => absurd hh (by omega), fun b q _ _ => rfl⟩
  obtain ⟨x, R, l1, m, off, s, v, sb, D, rfl, f1, f2, f3, f4, f5⟩ := loop_rise (step := law13_WriteCuts.s1 x2 ((some (a.c, 0), some (z.w, 0), true, ()), H1)) n
    (fun k t R => ∃ m off s v sb, t = (((m : Nat) : Int), off, (k : Int), ()) ∧ WrAt (fun k => k < H9.length) R z a e s v sb ∧ Keep (fun k => ¬ k < H9.length) H1 R ∧ Wf a s k ∧ m < A ∧ ((off = false ∧ m = k ∧ OnI a s v y k) ∨ (off = true ∧ OffI a s v m)))
    (fun x R => ∃ m off s v sb, ∃ D : Int, x = .inl (((m : Nat) : Int), off, ()) ∧ WrAt (fun k => k < H9.length) R z a e s v sb ∧ Keep (fun k => ¬ k < H9.length) H1 R ∧ (Wf a s D ∧ D ≤ 100) ∧ m < A ∧ Std a s m)
    (by
      rintro k _ R hk ⟨m, off, s, v, sb, rfl, f1, f2, f3, f4, hcase⟩
      have et : ((tagN k).1, (tagN k).2.1, (tagN k).2.2.1, (tagN k).2.2.2.1, (tagN k).2.2.2.2.1, ()) = tagN k := rfl
      have tg := tag_eq (show k < 4294967296 by omega)
      have hlt : decide ((k : Int) < (n : Int)) = true := decide_eq_true (by omega)
      have hsu := wrap_succ (show k < 9223372036854775807 by omega)
      have hsm := wrap_succ (show m < 9223372036854775807 by omega)
      have z1 : decide ((0 : Int) = 130) = false := rfl
      have z2 : decide ((51 : Int) = 130) = false := rfl
      have z3 : decide ((0 : Int) = 51) = false := rfl
      have z4 : decide ((51 : Int) = 0) = false := rfl
      rcases hcase with ⟨rfl, rfl, o⟩ | ⟨rfl, o⟩
      · obtain ⟨R1, p, er, s', v', sb', c1, c2, c3, c4, c5⟩ := on_app f1 o (by omega) (by omega) f3 (by omega) (by omega) (m := m) rfl
        have c1' : write_Writer_Append (some (z.w, 0)) (tagN m) [116, 101, 120, 116] R = some ((p, er, ()), R1) := c1
        rcases c5 with ⟨rfl, hy, o'⟩ | ⟨rfl, o'⟩
        · have hyA : (A : Int) ≠ (m : Int) + 1 := hy
          refine .inl ⟨(((m + 1 : Nat) : Int), false, ((m + 1 : Nat) : Int), ()), R1, ?_, m + 1, false, s', v', sb', rfl, c2, f2.trans c3, c4.le (by omega) (by omega), by omega, .inl ⟨rfl, rfl, o'⟩⟩
          unfold law13_WriteCuts.s1
          simp only [hn, hlt, cond_t, tg, et, bind_some, c1', z1, z3, cond_f, decide_true, Bool.not_true, Bool.not_false, sum0, hsu]
        · refine .inl ⟨((m : Int), true, ((m + 1 : Nat) : Int), ()), R1, ?_, m, true, s', v', sb', rfl, c2, f2.trans c3, c4.le (by omega) (by omega), by omega, .inr ⟨rfl, o'⟩⟩
          unfold law13_WriteCuts.s1
          simp only [hn, hlt, cond_t, tg, et, bind_some, c1', z2, z4, cond_f, decide_true, Bool.not_true, Bool.not_false, sum0, hsu]
      · obtain ⟨R1, p, er, s', v', sb', c1, c2, c3, c4, c5, o'⟩ := off_app f1 o f3 (by omega) (by omega) (m := k) (by omega)
        have c1' : write_Writer_Append (some (z.w, 0)) (tagN k) [116, 101, 120, 116] R = some ((p, er, ()), R1) := c1
        rcases c5 with rfl | rfl
        · refine .inr ⟨.inl ((m : Int), true, ()), R1, ?_, m, true, s', v', sb', k, rfl, c2, f2.trans c3, ⟨c4, by omega⟩, by omega, o'.std⟩
          unfold law13_WriteCuts.s1
          simp only [hn, hlt, cond_t, tg, et, bind_some, c1', decide_true]
        · refine .inl ⟨((m : Int), true, ((k + 1 : Nat) : Int), ()), R1, ?_, m, true, s', v', sb', rfl, c2, f2.trans c3, c4.le (by omega) (by omega), by omega, .inr ⟨rfl, o'⟩⟩
          unfold law13_WriteCuts.s1
          simp only [hn, hlt, cond_t, tg, et, bind_some, c1', z2, z4, cond_f, decide_true, Bool.not_true, sum0, hsu])
    (by
      rintro _ R ⟨m, off, s, v, sb, rfl, f1, f2, f3, f4, hcase⟩
      refine ⟨.inl ((m : Int), off, ()), R, ?_, m, off, s, v, sb, n, rfl, f1, f2, ⟨f3, by omega⟩, f4, ?_⟩
      · unfold law13_WriteCuts.s1
        simp only [hn, decide_eq_false (show ¬ (n : Int) < (n : Int) by omega), cond_f]
      · rcases hcase with ⟨_, rfl, o⟩ | ⟨_, o⟩
        · exact o.std
        · exact o.std)
    (y := (((0 : Nat) : Int), false, ((0 : Nat) : Int), ())) ⟨0, false, _, _, _, rfl, b2, Keep.refl _ _, w0.le (by omega) (by omega), by omega, .inl ⟨rfl, rfl, o0⟩⟩
  have l1' : loopW (law13_WriteCuts.s1 x2 ((some (a.c, 0), some (z.w, 0), true, ()), H1)) (0, false, 0, ()) H1 = some (.inl ((m : Int), off, ()), R) := l1
  obtain ⟨R1, p1, p2, p3⟩ := nand_power f1.nd
  have q : WrAt (fun k => k < H9.length) R1 z a e { s with off := false } v sb := f1.chip p2 p3
  have k1 := f2.trans (f1.nc p3)
  have ws : Wf a ({ s with off := false } : Nd) D := ⟨f3.1.did, f3.1.worn, f3.1.cuts, f3.1.fine, f3.1.small, f3.1.sz⟩
  obtain ⟨x, R2, l2, rfl, k2⟩ := loop_rise (step := law13_WriteCuts.s2 ((some (a.c, 0), some (z.w, 0), true, ()), H1) ((m : Int), off, ())) m
    (fun k t G => t = ((k : Int), ()) ∧ WrAt (fun k => k < H9.length) G z a e { s with off := false } v sb ∧ Keep (fun k => ¬ k < H9.length) H1 G) (fun x G => x = .inl () ∧ Keep (fun k => ¬ k < H9.length) H1 G)
    (by
      rintro k _ G hk ⟨rfl, q, kG⟩
      obtain ⟨G1, r1, r2, r3⟩ := write_Read q ws (k := k) (by omega)
      have hP : 0 < a.P := by omega
      have hkB : k < a.B * a.P := by omega
      have hb1 : k / a.P < a.B := (Nat.div_lt_iff_lt_mul hP).2 hkB
      have hq1 : k % a.P < a.P := Nat.mod_lt _ hP
      have hkk : k / a.P * a.P + k % a.P = k := by have := Nat.div_add_mod k a.P; rw [Nat.mul_comm] at this; exact this
      have hst := f5 (k / a.P) (k % a.P) hq1 (by rw [hkk]; exact hk)
      rw [hkk] at hst
      have hrd := read_told (s := { s with off := false }) rfl hb1 hq1 hst (tag_ok (by omega)) (tagN_seq (by omega)) (by omega) (by show 4 ≤ a.S; omega)
      rw [hkk] at hrd
      rw [hrd] at r1
      have w1 : wr (G1 ++ [Blk.cells [.int .i64 0, .int .u64 0, .int .i64 0, .int .i64 0, .int .i64 0] .exact]) G1.length 0 [.int .i64 ((tagN k).worn 0).1, .int .u64 ((tagN k).worn 0).2.1, .int .i64 ((tagN k).worn 0).2.2.1, .int .i64 ((tagN k).worn 0).2.2.2.1, .int .i64 ((tagN k).worn 0).2.2.2.2.1] = some ((G1 ++ [tagB tag0]).set G1.length (tagB ((tagN k).worn 0))) := wr_tag (G1 ++ [tagB tag0]) G1.length tag0 app_last ((tagN k).worn 0)
      have hs : (G1 ++ [tagB tag0]).set G1.length (tagB ((tagN k).worn 0)) = G1 ++ [tagB ((tagN k).worn 0)] := set_last
      rw [hs] at w1
      have ru : rdI .u64 (G1 ++ [tagB ((tagN k).worn 0)]) G1.length 1 = some (k : Int) := rdI_of app_last rfl
      have eu : IntKind.wrap .u64 (k : Int) = (k : Int) := by rw [wrap_u64]; omega
      have hsu := wrap_succ (show k < 9223372036854775807 by omega)
      refine .inl ⟨(((k + 1 : Nat) : Int), ()), _, ?_, rfl, r2.push (tagB ((tagN k).worn 0)), kG.trans ((r3.trans (Keep.push _ _ _)).mono fun _ hh => hh.elim)⟩
      unfold law13_WriteCuts.s2
      have htx : decide (txtB = [116, 101, 120, 116]) = true := rfl
      simp only [decide_eq_true (show (k : Int) < (m : Int) by omega), cond_t, r1, bind_some, w1, decide_true, Bool.not_true, cond_f, htx, ru, eu, hsu])
    (by
      rintro _ G ⟨rfl, q, kG⟩
      refine ⟨.inl (), G, ?_, rfl, kG⟩
      unfold law13_WriteCuts.s2
      simp only [decide_eq_false (show ¬ (m : Int) < (m : Int) by omega), cond_f])
    (y := (((0 : Nat) : Int), ())) ⟨rfl, q, k1⟩
  have l2' : loopW (law13_WriteCuts.s2 ((some (a.c, 0), some (z.w, 0), true, ()), H1) ((m : Int), off, ())) (0, ()) R1 = some (.inl (), R2) := l2
  have hy1 : H1[H2.length]? = some (cutB y) := b3.get (A := H9) rfl id
  have hy2 : R2[H2.length]? = some (cutB y) := k2.get hy1 (fun hh => hh (by show 2 < 4; decide))
  have ry : rdI .i64 R2 H2.length 0 = some (A : Int) := rdI_of hy2 rfl
  have hw3 : IntKind.wrap .i64 ((A : Int) - 1) = (A : Int) - 1 := wrap_i64 (by omega) (by omega)
  exact cuts_join q1 q2 r1 w1 r2 ew w2 r3 r4 q9 b1 l1' p1 l2' ry hw3 (by omega)
end Ev
