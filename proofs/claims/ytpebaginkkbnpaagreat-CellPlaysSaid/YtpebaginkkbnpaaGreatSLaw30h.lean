/- CellHealth: how many bytes were others is told, and whether a page should be written anew; written anew it is as it was. -/
import Derived.Test.YtpebaginkkbnpaaGreatSLaw30b
namespace Ev
open Go (IntKind)

def mk129 (k : Nat) : Noi := (1, 1, 0, (k : Int), 129, ())
/-- The noise of one page. -/
structure HI (ks : List Nat) (f : Nat → Bool) : Prop where
  nod : ks.Nodup
  lt : ∀ k ∈ ks, k < 104
  is : ∀ k, k < 104 → (f k = true ↔ k ∈ ks)
theorem turn_stay {q : CeA} {r : Int} {X : Int → Option Bytes} : ∀ {N : List Noi}, (∀ n ∈ N, n.1 ≠ r) → turnX q r X N = X
  | [], _ => rfl
  | n :: N, h => by
    unfold turnX
    rw [List.foldl_cons]
    have : stepX q r X n = X := if_neg fun hh => h n (by simp) hh.1
    rw [this]
    exact turn_stay (q := q) (r := r) (X := X) fun m hm => h m (List.mem_cons_of_mem _ hm)
theorem turn_129 {q : CeA} (hq : Std q) : ∀ (ks : List Nat) (o : Option Bytes) (m : Nat), (∀ k ∈ ks, k < 104) → ks.Nodup → Fl 104 2 o m → ∃ o', turnX q 1 (fun k => if k = 4 then o else none) (ks.map mk129) = (fun k => if k = 4 then o' else none) ∧ Fl 104 2 o' (m + ks.length) ∧
    ∀ j, fxX o' j = if j ∈ ks then fxX o j ^^^ 129 else fxX o j
  | [], o, m, _, _, hf => ⟨o, rfl, hf, fun j => by simp⟩
  | a :: ks, o, m, hlt, hnd, hf => by
    have ha := hlt a (by simp)
    have hf1 := hf.flip ha wt_129
    obtain ⟨hna, hnd2⟩ := List.nodup_cons.1 hnd
    obtain ⟨o', h1, h2, h3⟩ := turn_129 hq ks (some (flip1 (baseX 104 o) a 129)) (m + 1) (fun k hk => hlt k (List.mem_cons_of_mem _ hk)) hnd2 hf1
    refine ⟨o', ?_, by rw [List.length_cons, show m + (ks.length + 1) = m + 1 + ks.length by omega]; exact h2, fun j => ?_⟩
    · rw [← h1]
      unfold turnX
      rw [List.map_cons, List.foldl_cons]
      congr 1
      unfold stepX mk129
      rw [if_pos (show inN q 1 (1, 1, 0, (a : Int), 129, ()) from ⟨rfl, (show (0 : Int) ≤ 1 by decide), by rw [hq.1]; exact (show (1 : Int) < ((8 : Nat) : Int) by decide), (show (0 : Int) ≤ 0 by decide), by rw [hq.2.1]; exact (show (0 : Int) < ((4 : Nat) : Int) by decide), by show (0 : Int) ≤ (a : Int); omega, by rw [hq.R]; show (a : Int) < ((104 : Nat) : Int); omega⟩)]
      funext k
      simp only
      rw [num_std hq, hq.R, Int.toNat_natCast]
      by_cases e : k = 4
      · rw [if_pos (by omega), if_pos e, if_pos e]; rfl
      · rw [if_neg (by omega), if_neg e, if_neg e]
    · rw [h3, fx_flip hf.len ha]
      by_cases e : j = a
      · rw [if_pos e, if_neg (by rw [e]; exact hna), if_pos (by rw [e]; simp)]
      · rw [if_neg e]
        by_cases e2 : j ∈ ks
        · rw [if_pos e2, if_pos (List.mem_cons_of_mem _ e2)]
        · rw [if_neg e2, if_neg (by simp [e, e2])]

theorem rows_snoc {cts : List CT} (l : List (Tup cts)) (x : Tup cts) : rowsOf cts (l ++ [x]) = rowsOf cts l ++ Tup.mk cts x := by simp [rowsOf]
/-- A read that tells the page, in one step. -/
theorem read_text {H : Heap} {q : CeA} {t : Ce} {D : Int} (h : CeAt H q t) (hq : Std q) (w : Wf q.a t.s D) (hc : Calm t.s) (hr : 0 ≤ t.reads ∧ t.reads ≤ 1000000000) {b p : Nat} (hb : b < 8) (hp : p < 4) {s : Bytes} (hs : s.length = 96) {o : Option Bytes} {m : Nat}
    (hrd : t.s.read q.a b p = rawF s 1 8 (t.seed + (b * 4 + p : Nat))) (hX : turnX q (t.reads + 1) t.X t.N ((b * 4 + p : Nat) : Int) = o) (hf : Fl 104 2 o m) (hm : m ≤ 4) (hz : 40 < zbs (rawF s 1 8 (t.seed + (b * 4 + p : Nat)))) :
    ∃ H', cell_Cells_Read (some (q.c, 0)) (b : Int) (p : Int) H = some ((s.take 64, s.drop 64, 0, ()), H') ∧ Keep q.fp H H' ∧
      CeAt H' q { t.turned q with hw := ((cN 104 (fun k => fxX o k != 0) : Nat) : Int), wk := decide (2 ≤ ((cN 104 (fun k => fxX o k != 0) : Nat) : Int)) } := by
  have hn : q.num (b : Int) (p : Int) = ((b * 4 + p : Nat) : Int) := by rw [num_std hq]; omega
  have hraw : rawX q (t.turned q) b p = mixX (rawF s 1 8 (t.seed + (b * 4 + p : Nat))) o := by
    unfold rawX
    show mixX (t.s.read q.a b p) (turnX q (t.reads + 1) t.X t.N (q.num (b : Int) (p : Int))) = _
    rw [hn, hX, hrd]
  have hrl : (rawF s 1 8 (t.seed + (b * 4 + p : Nat))).length = 104 := by rw [rawF_len, hs]
  have h1 := hf.z1 _ hrl
  have hz2 : 16 < zbs (rawX q (t.turned q) b p) := by rw [hraw]; omega
  have hnz := hf.nz
  have hdec := dec_few hq h.sh hs (seed := t.seed + (b * 4 + p : Nat)) hf.len (by omega)
  have hrC := readC_dec (q := q) (t := t) (b := b) (p := p) (s := s) (n := ((cN 104 (fun k => fxX o k != 0) : Nat) : Int)) (by rw [hq.1]; exact hb) (by rw [hq.2.1]; exact hp) hc.off hz2
  obtain ⟨H', e1, e2, e3⟩ := ce_read h w hr (b : Int) (p : Int) (s, ((cN 104 (fun k => fxX o k != 0) : Nat) : Int), 0) (fun _ _ => ⟨by rw [hn, Int.toNat_natCast, Int.toNat_natCast, hraw]; exact hdec, fun _ => by rw [hs, hq.2.2.1]⟩)
  rw [hrC] at e1 e2
  rw [hq.2.2.1] at e1
  exact ⟨H', e1, e3, e2⟩
theorem read_blank {H : Heap} {q : CeA} {t : Ce} {D : Int} (h : CeAt H q t) (hq : Std q) (w : Wf q.a t.s D) (hc : Calm t.s) (hr : 0 ≤ t.reads ∧ t.reads ≤ 1000000000) {b p : Nat} (hb : b < 8) (hp : p < 4)
    (hz : zbs (mixX (t.s.read q.a b p) (turnX q (t.reads + 1) t.X t.N ((b * 4 + p : Nat) : Int))) ≤ 16) :
    ∃ H', cell_Cells_Read (some (q.c, 0)) (b : Int) (p : Int) H = some ((List.replicate 64 255, List.replicate 32 255, 0, ()), H') ∧ Keep q.fp H H' ∧
      CeAt H' q { t.turned q with wk := !decide (zbs (mixX (t.s.read q.a b p) (turnX q (t.reads + 1) t.X t.N ((b * 4 + p : Nat) : Int))) = 0) } := by
  have hn : q.num (b : Int) (p : Int) = ((b * 4 + p : Nat) : Int) := by rw [num_std hq]; omega
  have hraw : rawX q (t.turned q) b p = mixX (t.s.read q.a b p) (turnX q (t.reads + 1) t.X t.N ((b * 4 + p : Nat) : Int)) := by
    unfold rawX
    show mixX (t.s.read q.a b p) (turnX q (t.reads + 1) t.X t.N (q.num (b : Int) (p : Int))) = _
    rw [hn]
  have hrC := readC_full (q := q) (t := t) (b := b) (p := p) (o := ([], 0, 0)) (by rw [hq.1]; exact hb) (by rw [hq.2.1]; exact hp) hc.off (by rw [hraw]; exact hz)
  obtain ⟨H', e1, e2, e3⟩ := ce_read h w hr (b : Int) (p : Int) ([], 0, 0) (fun _ hh => by rw [Int.toNat_natCast, Int.toNat_natCast, hraw] at hh; omega)
  rw [hrC] at e1 e2
  rw [hq.2.2.1] at e1
  rw [hraw] at e2
  exact ⟨H', e1, e3, e2⟩
end Ev
