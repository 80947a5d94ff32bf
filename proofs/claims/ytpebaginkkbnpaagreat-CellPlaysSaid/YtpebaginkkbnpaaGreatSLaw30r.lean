/- CellPlays: how much of a page has turned. -/
import Derived.Test.YtpebaginkkbnpaaGreatSLaw30q
namespace Ev
open Go (IntKind)

def cntN (N : List Noi) (pg r : Int) : Nat := (N.filter fun n => decide (n.2.1 * 4 + n.2.2.1 = pg ∧ n.1 = r)).length
theorem cntR_succ (pg : Int) {r : Int} (hr : 0 ≤ r) : ∀ N : List Noi, cntR N pg (r + 1) = cntR N pg r + cntN N pg (r + 1)
  | [] => rfl
  | n :: N => by
    have ih := cntR_succ pg hr N
    unfold cntR cntN at *
    rw [List.filter_cons, List.filter_cons, List.filter_cons]
    by_cases h1 : n.2.1 * 4 + n.2.2.1 = pg
    · by_cases h2 : n.1 = r + 1
      · rw [if_pos (decide_eq_true ⟨h1, by omega, by omega⟩), if_neg (by simp only [decide_eq_true_eq]; omega), if_pos (decide_eq_true ⟨h1, h2⟩), List.length_cons, List.length_cons, ih]; omega
      · rw [if_neg (c := decide (n.2.1 * 4 + n.2.2.1 = pg ∧ n.1 = r + 1) = true) (by simp only [decide_eq_true_eq]; exact fun h => h2 h.2)]
        by_cases h3 : 1 ≤ n.1 ∧ n.1 ≤ r
        · rw [if_pos (decide_eq_true ⟨h1, h3.1, by omega⟩), if_pos (decide_eq_true ⟨h1, h3⟩), List.length_cons, List.length_cons, ih]; omega
        · rw [if_neg (by simp only [decide_eq_true_eq]; omega), if_neg (by simp only [decide_eq_true_eq]; exact fun h => h3 h.2), ih]
    · rw [if_neg (by simp only [decide_eq_true_eq]; exact fun h => h1 h.1), if_neg (by simp only [decide_eq_true_eq]; exact fun h => h1 h.1), if_neg (by simp only [decide_eq_true_eq]; exact fun h => h1 h.1), ih]

theorem turn_fl {q : CeA} (hq : Std q) (pg r : Int) : ∀ (N : List Noi) (X : Int → Option Bytes) (m : Nat), (∀ n ∈ N, Tame n) → Fl 104 1 (X pg) m → Fl 104 1 (turnX q r X N pg) (m + cntN N pg r)
  | [], X, m, _, h => h
  | n :: N, X, m, ht, h => by
    have hn := ht n (by simp)
    have hN : ∀ n ∈ N, Tame n := fun x hx => ht x (List.mem_cons_of_mem _ hx)
    have hstep : Fl 104 1 (stepX q r X n pg) (m + (if n.2.1 * 4 + n.2.2.1 = pg ∧ n.1 = r then 1 else 0)) := by
      unfold stepX
      by_cases hr : n.1 = r
      · have hin : inN q r n := ⟨hr, hn.b.1, by rw [hq.1]; exact hn.b.2, hn.p.1, by rw [hq.2.1]; exact hn.p.2, hn.y.1, by rw [hq.R]; exact hn.y.2⟩
        rw [if_pos hin]
        rw [num_std hq]
        by_cases e : pg = n.2.1 * 4 + n.2.2.1
        · rw [if_pos e, if_pos ⟨e.symm, hr⟩, hq.R]
          obtain ⟨j, hj, hv⟩ := hn.v
          have hvv : UInt8.ofNat n.2.2.2.2.1.toNat = UInt8.ofNat (2 ^ j) := by
            rw [hv]
            show UInt8.ofNat (((UInt8.ofNat (2 ^ j)).toNat : Nat) : Int).toNat = _
            rw [Int.toNat_natCast, UInt8.ofNat_toNat]
          rw [hvv]
          have hy := hn.y
          exact h.flip (by omega) (wt_bit j hj)
        · rw [if_neg e, if_neg (fun hh => e hh.1.symm)]
          exact h
      · rw [if_neg (fun hh => hr hh.1), if_neg (fun hh => hr hh.2)]
        exact h
    have := turn_fl hq pg r N (stepX q r X n) _ hN hstep
    have e : cntN (n :: N) pg r = (if n.2.1 * 4 + n.2.2.1 = pg ∧ n.1 = r then 1 else 0) + cntN N pg r := by
      unfold cntN
      rw [List.filter_cons]
      by_cases h1 : n.2.1 * 4 + n.2.2.1 = pg ∧ n.1 = r
      · rw [if_pos (decide_eq_true h1), if_pos h1, List.length_cons]; omega
      · rw [if_neg (by simp only [decide_eq_true_eq]; exact h1), if_neg h1]; omega
    rw [e, ← Nat.add_assoc]
    exact this

theorem PlR.turned {q : CeA} {t t' : Ce} {z : Nd} (r : PlR q t z) (hq : Std q) (hr : 0 ≤ t.reads) (h1 : t'.s = t.s) (h2 : t'.N = t.N) (h3 : t'.seed = t.seed) (h4 : t'.X = turnX q (t.reads + 1) t.X t.N) (h5 : t'.reads = t.reads + 1) : PlR q t' z := by
  refine ⟨by rw [h1]; exact r.off, by rw [h1]; exact r.cuts, by rw [h1]; exact r.fails, by rw [h1]; exact r.did, by rw [h1]; exact r.dead, by rw [h1]; exact r.emp, by rw [h1]; exact r.kept, fun pg => ?_, by rw [h3]; exact r.seed, by rw [h2]; exact r.tame, by rw [h2]; exact r.cnt⟩
  rw [h4, h2, h5, cntR_succ pg hr]
  exact turn_fl hq pg (t.reads + 1) t.N t.X _ r.tame (r.fl pg)

set_option maxHeartbeats 1000000 in
theorem plays_read {q : CeA} {a : NdA} {t : Ce} {z : Nd} (r : PlR q t z) (hq : Std q) (hs : ShOK (q.S + 32) 8 q.W q.D) (ha : a.B = 8 ∧ a.P = 4 ∧ a.S = 64) (haS : q.a.S = 72) (hr : 0 ≤ t.reads) {i j : Nat} (hi : i < 8) (hj : j < 4)
    (hdead : t.s.dead i = false) (hnear : ¬ (zbs (t.s.read q.a i j) ≤ 40 ∧ zbs (t.s.read q.a i j) ≠ 0)) :
    ∃ o, (16 < zbs (rawX q (t.turned q) i j) → DecIs q (t.seed + q.num i j) (rawX q (t.turned q) i j) o ∧ (o.2.2 = 0 → o.1.length = q.S + 32)) ∧ (readC q t (i : Int) (j : Int) o).1 = z.readT a (i : Int) (j : Int) ∧ PlR q (readC q t (i : Int) (j : Int) o).2 z := by
  have hn : q.num (i : Int) (j : Int) = ((i * 4 + j : Nat) : Int) := by rw [num_std hq]; omega
  have hf := turn_fl hq ((i * 4 + j : Nat) : Int) (t.reads + 1) t.N t.X _ r.tame (r.fl ((i * 4 + j : Nat) : Int))
  rw [← cntR_succ _ hr] at hf
  have hle := cntR_le t.N ((i * 4 + j : Nat) : Int) (t.reads + 1)
  have hc4 := r.cnt ((i * 4 + j : Nat) : Int)
  have hraw : rawX q (t.turned q) i j = mixX (t.s.read q.a i j) (turnX q (t.reads + 1) t.X t.N ((i * 4 + j : Nat) : Int)) := by
    unfold rawX
    show mixX (t.s.read q.a i j) (turnX q (t.reads + 1) t.X t.N (q.num (i : Int) (j : Int))) = _
    rw [hn]
  have he : t.s.inE q.a (i : Int) (j : Int) = 0 := by
    unfold Nd.inE
    rw [if_neg (by rw [r.off.1]; decide), if_neg (by rw [hq.1, hq.2.1]; omega)]
  have hz : z.readT a (i : Int) (j : Int) = ((z.read a i j).take 64, (z.read a i j).drop 64, 0, ()) := by
    unfold Nd.readT
    rw [r.inE hq ha, if_neg (not_not_intro he), Int.toNat_natCast, Int.toNat_natCast, ha.2.2]
  have hP : ∀ o, PlR q (readC q t (i : Int) (j : Int) o).2 z := fun o => by
    obtain ⟨g1, g2, g3⟩ := readC_s q t (i : Int) (j : Int) o
    obtain ⟨g4, g5⟩ := readC_X o he
    exact r.turned hq hr g1 g3 g2 g4 g5
  obtain ⟨o', ho'⟩ : ∃ x, x = turnX q (t.reads + 1) t.X t.N ((i * 4 + j : Nat) : Int) := ⟨_, rfl⟩
  rw [← ho'] at hf hraw
  by_cases hpe : t.s.pages i j = []
  · have h1 : t.s.read q.a i j = List.replicate 104 255 := by unfold Nd.read fullP; rw [if_pos hpe, haS]
    have h2 : z.read a i j = List.replicate 96 255 := by unfold Nd.read fullP; rw [if_pos ((r.emp i j).2 hpe), ha.2.2]
    have h3 := hf.z2 (List.replicate 104 255) (by simp)
    rw [zbs_ones] at h3
    have h4 : zbs (rawX q (t.turned q) i j) ≤ 16 := by rw [hraw, h1]; omega
    refine ⟨([], 0, 0), fun h => by omega, ?_, hP _⟩
    rw [readC_full (by rw [hq.1]; exact hi) (by rw [hq.2.1]; exact hj) r.off.1 h4, hz, h2, hq.2.2.1, List.take_replicate, List.drop_replicate]
    rfl
  · have hzn : z.pages i j ≠ [] := fun h => hpe ((r.emp i j).1 h)
    obtain ⟨k1, k2⟩ := r.kept i j hdead hzn
    have h1 : t.s.read q.a i j = rawF (z.pages i j) 1 8 (3 + ((i * 4 + j : Nat) : Int)) := by unfold Nd.read; rw [if_neg hpe, k2]
    have h2 : z.read a i j = z.pages i j := by unfold Nd.read; rw [if_neg hzn]
    have hrl : (rawF (z.pages i j) 1 8 (3 + ((i * 4 + j : Nat) : Int))).length = 104 := by rw [rawF_len, k1]
    rw [h1] at hnear hraw
    have hne : zbs (rawF (z.pages i j) 1 8 (3 + ((i * 4 + j : Nat) : Int))) ≠ 0 := fun h0 => by
      have := zbs_zero h0
      rw [hrl] at this
      exact raw_ne k1 _ this
    have h3 := hf.z1 _ hrl
    have hnz := hf.nz
    have hdec := dec_few hq hs k1 (seed := 3 + ((i * 4 + j : Nat) : Int)) hf.len (by omega)
    have h4 : 16 < zbs (rawX q (t.turned q) i j) := by rw [hraw]; omega
    refine ⟨(z.pages i j, ((cN 104 (fun k => fxX o' k != 0) : Nat) : Int), 0), fun _ => ⟨by rw [hraw, hn, r.seed]; exact hdec, fun _ => by rw [k1, hq.2.2.1]⟩, ?_, hP _⟩
    rw [readC_dec (by rw [hq.1]; exact hi) (by rw [hq.2.1]; exact hj) r.off.1 h4, hz, h2, hq.2.2.1]
end Ev
