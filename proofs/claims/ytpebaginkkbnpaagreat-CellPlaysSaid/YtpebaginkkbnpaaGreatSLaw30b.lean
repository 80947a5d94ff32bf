/- Chapter 30: awake. -/
import Derived.Test.YtpebaginkkbnpaaGreatSLaw30a
namespace Ev
open Go (IntKind)

structure Calm (s : Nd) : Prop where
  off : s.off = false
  cuts : s.cuts = []
  fails : s.fails = []
  dead : ∀ b, s.dead b = false
theorem calm_new : Calm (Nd.new [] [] []) := ⟨rfl, rfl, rfl, fun _ => rfl⟩
theorem Calm.acted {s : Nd} (h : Calm s) : Calm s.acted := by
  refine ⟨?_, h.cuts, h.fails, h.dead⟩
  show (s.off || s.cutNow.isSome) = false
  have : s.cutNow = none := by unfold Nd.cutNow; rw [h.cuts]; rfl
  rw [h.off, this]; rfl
theorem Calm.lay {a : NdA} {s : Nd} (h : Calm s) (b p : Nat) (t : Bytes) : Calm (s.lay a b p t) := ⟨h.off, h.cuts, h.fails, h.dead⟩
theorem fresh_used {a : NdA} {s : Nd} {b p : Nat} (h : ∀ k, s.pages b k = []) : s.used a b p = false := by
  unfold Nd.used
  rw [List.any_eq_false]
  intro k _
  rw [h k]
  simp

theorem kept_std {q : CeA} (hq : Std q) {s : Bytes} (hz : zbs s ≠ 0) (seed : Int) : keptF q seed s = rawF s 1 8 seed := by
  unfold keptF
  rw [if_neg hz, hq.2.2.2]
theorem num_std {q : CeA} (hq : Std q) (b p : Int) : q.num b p = b * 4 + p := by
  unfold CeA.num
  rw [hq.2.1]; rfl
theorem kept_ne {q : CeA} (hq : Std q) {s : Bytes} (hl : s.length = 96) (seed : Int) (h : keptF q seed s = List.replicate 104 255) : zbs s = 0 := by
  by_cases hz : zbs s = 0
  · exact hz
  · rw [kept_std hq hz] at h
    exact absurd h (raw_ne hl seed)

/-- One page is written into new cells. -/
theorem wrote {H : Heap} {q : CeA} {t : Ce} {D : Int} (h : CeAt H q t) (hq : Std q) (w : Wf q.a t.s D) (hD : D < 1000000) (hc : Calm t.s) {b p : Nat} (hb : b < 8) (hp : p < 4) (hf : t.s.used q.a b p = false) {d sp : Bytes} (h1 : d.length = 64) (h2 : sp.length = 32) :
    ∃ H', cell_Cells_Program (some (q.c, 0)) (b : Int) (p : Int) d sp H = some ((0, ()), H') ∧ Keep q.fp H H' ∧
      CeAt H' q { t with s := t.s.acted.lay q.a b p (keptF q (t.seed + (b * 4 + p : Nat)) (d ++ sp)), X := fun k => if k = ((b * 4 + p : Nat) : Int) then none else t.X k } ∧ Wf q.a (t.s.acted.lay q.a b p (keptF q (t.seed + (b * 4 + p : Nat)) (d ++ sp))) (D + 1) := by
  obtain ⟨H', e1, e2, e3⟩ := ce_program h w (b : Int) (p : Int) d sp (by omega)
  have hw := progC_wf w hD (b : Int) (p : Int) d sp
  rw [prog_ok (by rw [hq.1]; exact hb) (by rw [hq.2.1]; exact hp) hc.off hc.cuts hc.fails (hc.dead b) hf (by rw [hq.2.2.1]; exact h1) h2 h.aS] at e1 e2 hw
  have hn : q.num (b : Int) (p : Int) = ((b * 4 + p : Nat) : Int) := by rw [num_std hq]; omega
  simp only [hn] at e1 e2 hw
  exact ⟨H', e1, e3, e2, hw⟩

def abcT : Bytes := textF [97, 98, 99] 64 ++ textF [100] 32
theorem abc_len : abcT.length = 96 := by unfold abcT; rw [List.length_append, textF_len, textF_len]
theorem abc_bits : 19 ≤ sumN (fun k => zb (co abcT k ^^^ mkB 9 k)) 12 := by decide +kernel
theorem abc_nz : zbs abcT ≠ 0 := by decide +kernel
theorem one_cn : cN 104 (fun k => fxX (some (flip1 (baseX 104 none) 5 9)) k != 0) = 1 := by decide +kernel
theorem wt_9 : Wt 9 2 := wt_of (by decide +kernel)

set_option maxHeartbeats 1000000 in
theorem awake30 : law30_awake = some (true, ()) := by
  unfold law30_awake law30_awake.on
  have hgeo : law30_geometry = some ((8, 4, 64, ()), ()) := rfl
  have hrow : Row ([] ++ [Blk.cells [.int .i64 1, .int .i64 2, .int .i64 0, .int .i64 5, .int .u8 9] .exact]) 5 ⟨some (([] : Heap).length, 0), 1, 1⟩ (noiC [(1, 2, 0, 5, 9, ())]) := ⟨rfl, fun h => by cases h⟩
  obtain ⟨H1, q, e1, e2, _, hq, w0, _⟩ := cnew_std (f := (⟨none, 0, 0⟩, ⟨none, 0, 0⟩, ⟨none, 0, 0⟩, ())) (seed := 1) (fails := []) (bad := []) ([] ++ [Blk.cells [.int .i64 1, .int .i64 2, .int .i64 0, .int .i64 5, .int .u8 9] .exact]) (Row.ni _ _ _) (Row.ni _ _ _) (Row.ni _ _ _) hrow (by decide) (by decide) (by decide) (by decide) (by decide)
  obtain ⟨H2, p1, _, p2, p3⟩ := wrote (b := 2) (p := 0) e2 hq w0 (by decide) calm_new (by decide) (by decide) (fresh_used fun _ => rfl) (textF_len [97, 98, 99] 64) (textF_len [100] 32)
  have hT : textF [97, 98, 99] 64 ++ textF [100] 32 = abcT := rfl
  rw [hT] at p2 p3
  have hk : keptF q ((Ce.new [] [] 1 [(1, 2, 0, 5, 9, ())]).seed + ((2 * 4 + 0 : Nat) : Int)) abcT = rawF abcT 1 8 9 := kept_std hq abc_nz 9
  rw [hk] at p2 p3
  have hX : (fun k => if k = ((2 * 4 + 0 : Nat) : Int) then none else (Ce.new [] [] 1 [(1, 2, 0, 5, 9, ())]).X k) = fun _ => (none : Option Bytes) := by funext k; split <;> rfl
  rw [hX] at p2
  obtain ⟨t, ht⟩ : ∃ t : Ce, t = { Ce.new [] [] 1 [(1, 2, 0, 5, 9, ())] with s := (Ce.new [] [] 1 [(1, 2, 0, 5, 9, ())]).s.acted.lay q.a 2 0 (rawF abcT 1 8 9), X := fun _ => none } := ⟨_, rfl⟩
  rw [← ht] at p2
  have hrl : (rawF abcT 1 8 9).length = 104 := by rw [rawF_len, abc_len]
  have haS := e2.aS
  rw [hq.R] at haS
  have hs : t.s = (Ce.new [] [] 1 [(1, 2, 0, 5, 9, ())]).s.acted.lay q.a 2 0 (rawF abcT 1 8 9) := by rw [ht]
  have hrd : t.s.read q.a 2 0 = rawF abcT 1 8 9 := by
    rw [hs, read_lay (by omega), if_pos ⟨rfl, rfl⟩]
  have hXt : (t.turned q).X (q.num ((2 : Nat) : Int) ((0 : Nat) : Int)) = some (flip1 (baseX 104 none) 5 9) := by
    rw [num_std hq, ht]
    show turnX q 1 (fun _ => none) [(1, 2, 0, 5, 9, ())] 8 = _
    unfold turnX
    rw [List.foldl_cons, List.foldl_nil]
    unfold stepX
    rw [if_pos (by unfold inN; rw [hq.1, hq.2.1, hq.R]; decide)]
    simp only
    rw [num_std hq, hq.R, if_pos (by decide)]
    rfl
  have hraw : rawX q (t.turned q) 2 0 = mixX (rawF abcT 1 8 9) (some (flip1 (baseX 104 none) 5 9)) := by
    unfold rawX
    rw [hXt]
    show mixX (t.s.read q.a 2 0) _ = _
    rw [hrd]
  have hfl : Fl 104 2 (some (flip1 (baseX 104 none) 5 9)) 1 := (Fl.non 104 2 0).flip (by decide) wt_9
  have hz : 16 < zbs (rawX q (t.turned q) 2 0) := by
    have h1 := hfl.z1 _ hrl
    have h2 := zbs_raw8 abc_len 9 12 (by decide)
    have h3 := abc_bits
    rw [hraw]
    omega
  have hoff : t.s.off = false := by rw [hs]; exact (calm_new.acted.lay _ _ _).off
  have hdec := dec_few hq p2.sh abc_len (seed := 9) hfl.len (by rw [one_cn]; decide)
  rw [one_cn] at hdec
  have hrC := readC_dec (q := q) (t := t) (b := 2) (p := 0) (s := abcT) (n := 1) (by rw [hq.1]; decide) (by rw [hq.2.1]; decide) hoff hz
  have hseed : t.seed + q.num ((2 : Nat) : Int) ((0 : Nat) : Int) = 9 := by rw [num_std hq, ht]; rfl
  obtain ⟨H3, r1, r2, _⟩ := ce_read p2 (D := 0 + 1) (by rw [hs]; exact p3) (by rw [ht]; exact (show (0 : Int) ≤ 0 ∧ (0 : Int) ≤ 1000000000 from ⟨Int.le_refl _, by decide⟩)) ((2 : Nat) : Int) ((0 : Nat) : Int) (abcT, 1, 0) (fun _ _ => ⟨by rw [hseed, Int.toNat_natCast, Int.toNat_natCast, hraw]; exact hdec, fun _ => by rw [abc_len, hq.2.2.1]⟩)
  rw [hrC] at r1 r2
  have htk : abcT.take q.S = textF [97, 98, 99] 64 := by
    rw [hq.2.2.1]
    unfold abcT
    rw [List.take_append_of_le_length (by rw [textF_len]; exact Nat.le_refl _), List.take_of_length_le (by rw [textF_len]; exact Nat.le_refl _)]
  rw [htk] at r1
  obtain ⟨H4, s1, s2, _⟩ := ce_health r2
  have s3 := ce_reads s2
  have hrr : (t.turned q).reads = 1 := by rw [ht]; rfl
  have t1 : law30_text [97, 98, 99] 64 = some (textF [97, 98, 99] 64, ()) := text_eq _ 64 (by decide)
  have t2 : law30_text [100] 32 = some (textF [100] 32, ()) := text_eq _ 32 (by decide)
  have p1' : cell_Cells_Program (some (q.c, 0)) 2 0 (textF [97, 98, 99] 64) (textF [100] 32) H1 = some ((0, ()), H2) := p1
  have r1' : cell_Cells_Read (some (q.c, 0)) 2 0 H2 = some ((textF [97, 98, 99] 64, abcT.drop q.S, 0, ()), H3) := r1
  simp only [hgeo, bind_some, e1, decide_true, Bool.not_true, cond_f, t1, t2, p1', r1', cond_t, s1, s3, hrr]
end Ev
