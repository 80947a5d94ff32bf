/- CellHealth: how many bytes were others is told, and whether a page should be written anew; written anew it is as it was. -/
import Derived.Test.YtpebaginkkbnpaaGreatSLaw30b
namespace Ev
open Go (IntKind)

def mk129 (k : Nat) : Noi := (1, 1, 0, (k : Int), 129, ())
/-- The noise of one page. -/
structure HI (ks : List Nat) (f : Nat → Bool) : Prop where
  nod : ks.Nodup
  lt : ∀ k ∈ ks, k < 104
  is : ∀ k, k < 104 → (f k = true ↔ k ∈ ks)
theorem turn_stay {q : CeA} {r : Int} {X : Int → Option Bytes} : ∀ {N : List Noi}, (∀ n ∈ N, n.1 ≠ r) → turnX q r X N = X
  | [], _ => rfl
  | n :: N, h => by
    unfold turnX
    rw [List.foldl_cons]
    have : stepX q r X n = X := if_neg fun hh => h n (by simp) hh.1
    rw [this]
    exact turn_stay (q := q) (r := r) (X := X) fun m hm => h m (List.mem_cons_of_mem _ hm)
theorem turn_129 {q : CeA} (hq : Std q) : ∀ (ks : List Nat) (o : Option Bytes) (m : Nat), (∀ k ∈ ks, k < 104) → ks.Nodup → Fl 104 2 o m → ∃ o', turnX q 1 (fun k => if k = 4 then o else none) (ks.map mk129) = (fun k => if k = 4 then o' else none) ∧ Fl 104 2 o' (m + ks.length) ∧
    ∀ j, fxX o' j = if j ∈ ks then fxX o j ^^^ 129 else fxX o j
  | [], o, m, _, _, hf => ⟨o, rfl, hf, fun j => by simp⟩
  | a :: ks, o, m, hlt, hnd, hf => by
    have ha := hlt a (by simp)
    have hf1 := hf.flip ha wt_129
    obtain ⟨hna, hnd2⟩ := List.nodup_cons.1 hnd
    obtain ⟨o', h1, h2, h3⟩ := turn_129 hq ks (some (flip1 (baseX 104 o) a 129)) (m + 1) (fun k hk => hlt k (List.mem_cons_of_mem _ hk)) hnd2 hf1
    refine ⟨o', ?_, by rw [List.length_cons, show m + (ks.length + 1) = m + 1 + ks.length by omega]; exact h2, fun j => ?_⟩
    · rw [← h1]
      unfold turnX
      rw [List.map_cons, List.foldl_cons]
      congr 1
      unfold stepX mk129
      rw [if_pos (show inN q 1 (1, 1, 0, (a : Int), 129, ()) from ⟨rfl, (show (0 : Int) ≤ 1 by decide), by rw [hq.1]; exact (show (1 : Int) < ((8 : Nat) : Int) by decide), (show (0 : Int) ≤ 0 by decide), by rw [hq.2.1]; exact (show (0 : Int) < ((4 : Nat) : Int) by decide), by show (0 : Int) ≤ (a : Int); omega, by rw [hq.R]; show (a : Int) < ((104 : Nat) : Int); omega⟩)]
      funext k
      simp only
      rw [num_std hq, hq.R, Int.toNat_natCast]
      by_cases e : k = 4
      · rw [if_pos (by omega), if_pos e, if_pos e]; rfl
      · rw [if_neg (by omega), if_neg e, if_neg e]
    · rw [h3, fx_flip hf.len ha]
      by_cases e : j = a
      · rw [if_pos e, if_neg (by rw [e]; exact hna), if_pos (by rw [e]; simp)]
      · rw [if_neg e]
        by_cases e2 : j ∈ ks
        · rw [if_pos e2, if_pos (List.mem_cons_of_mem _ e2)]
        · rw [if_neg e2, if_neg (by simp [e, e2])]

theorem rows_snoc {cts : List CT} (l : List (Tup cts)) (x : Tup cts) : rowsOf cts (l ++ [x]) = rowsOf cts l ++ Tup.mk cts x := by simp [rowsOf]
set_option maxHeartbeats 2000000 in
/-- The noise is laid out. -/
theorem noise_loop {H : Heap} {x1 : Sl} {rows : List Int} (hrow : Row H 1 x1 (intC rows)) (hrl : rows.length ≤ 9223372036854775807) :
    ∃ (t : Sl) (ks : List Nat) (G : Heap), loopW (law30_CellHealth.s1 x1 (⟨some (H.length + 1, 0), 104, 104⟩, (H ++ [Blk.cells [] .exact]) ++ [Blk.cells (arrC 104 fun _ => [.bool false]) .exact])) (⟨some (H.length, 0), 0, 0⟩, 0, 0, ()) ((H ++ [Blk.cells [] .exact]) ++ [Blk.cells (arrC 104 fun _ => [.bool false]) .exact]) = some ((t, (ks.length : Int), ()), G) ∧
      Row G 5 t (noiC (ks.map mk129)) ∧ ks.Nodup ∧ (∀ k ∈ ks, k < 104) ∧ ks.length ≤ 4 ∧ Keep (fun _ => False) H G := by
  have hxl := hrow.int_len
  have hg0 : GrowN H ((H ++ [Blk.cells [] .exact]) ++ [Blk.cells (arrC 104 fun _ => [.bool false]) .exact]) 5 ⟨some (H.length, 0), 0, 0⟩ (noiC (([] : List Nat).map mk129)) := (GrowN.em (Keep.refl _ H) 5).more _
  have hu0 : UAt ((H ++ [Blk.cells [] .exact]) ++ [Blk.cells (arrC 104 fun _ => [.bool false]) .exact]) (H.length + 1) 104 (fun _ => false) := by
    unfold UAt
    have : H.length + 1 = (H ++ [Blk.cells [] .exact]).length := by simp
    rw [this]; exact app_last
  generalize hH2 : (H ++ [Blk.cells [] .exact]) ++ [Blk.cells (arrC 104 fun _ => [.bool false]) .exact] = H2 at hg0 hu0
  obtain ⟨x, G, l1, ks, t, f, rfl, hI, hlen, g, _⟩ := loop_rise (step := law30_CellHealth.s1 x1 (⟨some (H.length + 1, 0), 104, 104⟩, H2)) rows.length
    (fun i y G => ∃ (ks : List Nat) (t : Sl) (f : Nat → Bool), y = (t, (ks.length : Int), (i : Int), ()) ∧ HI ks f ∧ ks.length ≤ 4 ∧ GrowN H G 5 t (noiC (ks.map mk129)) ∧ UAt G (H.length + 1) 104 f ∧ ∀ a, t.p = some a → a.1 ≠ H.length + 1)
    (fun x G => ∃ (ks : List Nat) (t : Sl) (f : Nat → Bool), x = (t, (ks.length : Int), ()) ∧ HI ks f ∧ ks.length ≤ 4 ∧ GrowN H G 5 t (noiC (ks.map mk129)) ∧ True)
    (by
      rintro i _ G hi ⟨ks, t, f, rfl, hI, hlen, g, ua, hne⟩
      by_cases h4 : ks.length < 4
      case neg =>
        right
        refine ⟨_, G, ?_, ks, t, f, rfl, hI, hlen, g, trivial⟩
        unfold law30_CellHealth.s1
        simp only [decide_eq_true (show (i : Int) < (x1.len : Int) by omega), cond_t, decide_eq_false (show ¬ (ks.length : Int) < 4 by omega), cond_f]
      left
      have hri : Row G 1 x1 (intC rows) := hrow.keep g.keep fun _ _ _ => id
      obtain ⟨b, o, _, a1, a2⟩ := hri.int hi
      have hw := wrap_succ (show i < 9223372036854775807 by omega)
      generalize rows[i] = v at a2
      obtain ⟨a, ha, hm⟩ := tmod_pick v 104 (by decide) (by decide)
      have hat : Sl.at 1 ⟨some (H.length + 1, 0), 104, 104⟩ (a : Int) = some (H.length + 1, a) := by
        rw [at_of (by omega) (by omega), Int.toNat_natCast]; simp
      have hr := ua.get ha
      have hlt1 : decide ((i : Int) < (x1.len : Int)) = true := decide_eq_true (by omega)
      have hlt2 : decide ((ks.length : Int) < 4) = true := decide_eq_true (by omega)
      unfold law30_CellHealth.s1
      have hm' : Int.tmod (IntKind.wrap .i64 (Int.tmod v 104 + 104)) 104 = (a : Int) := hm
      simp only [hlt1, hlt2, cond_t, a1, bind_some, a2, hm', hat, hr]
      cases hf : f a with
      | true =>
        simp only [Bool.not_true, cond_f, hw]
        exact ⟨_, G, rfl, ks, t, f, rfl, hI, hlen, g, ua, hne⟩
      | false =>
        have htl : t.len = ks.length := by
          have := g.row.len
          have e : (noiC (ks.map mk129)).length = (ks.map mk129).length * 5 := rowsC_length (cts := noiT) _
          rw [List.length_map] at e
          omega
        obtain ⟨t', G2, b1, b2, b3, b4, b5, bb, b6, b7⟩ := g.one (bytes := 40) (new := [.int .i64 1, .int .i64 1, .int .i64 0, .int .i64 (a : Int), .int .u8 129]) (by decide) rfl (by omega) (by omega)
        have ua2 : UAt G2 (H.length + 1) 104 f := b5.get ua fun ⟨o, ho⟩ => hne _ ho rfl
        obtain ⟨G3, c1, c2, c3⟩ := ua2.set ha true
        have hlG : H.length + 1 < G.length := get_lt ua
        have hg3 : GrowN H G3 5 t' (noiC ((ks ++ [a]).map mk129)) := by
          have e : noiC ((ks ++ [a]).map mk129) = noiC (ks.map mk129) ++ [.int .i64 1, .int .i64 1, .int .i64 0, .int .i64 (a : Int), .int .u8 129] := by
            rw [List.map_append]
            have := rows_snoc (cts := noiT) (ks.map mk129) (mk129 a)
            exact this
          rw [e]
          refine b3.stay c3 fun j hj hjl => ?_
          subst hj
          refine ⟨by omega, fun x hx => ?_⟩
          rw [b6] at hx
          cases hx
          simp only
          omega
        simp only [Bool.not_false, cond_t, b1, b2, bind_some, c1, hw, wrap_succ (show ks.length < 9223372036854775807 by omega)]
        refine ⟨_, G3, rfl, ks ++ [a], t', _, by rw [List.length_append]; rfl, ⟨?_, ?_, ?_⟩, by rw [List.length_append]; simp; omega, hg3, c2, ?_⟩
        · rw [List.nodup_append]
          refine ⟨hI.nod, by simp, fun x hx y hy e => ?_⟩
          have hy : y = a := by simpa using hy
          have := (hI.is x (hI.lt x hx)).2 hx
          rw [e, hy, hf] at this
          cases this
        · intro k hk
          rcases List.mem_append.1 hk with hk | hk
          · exact hI.lt k hk
          · have : k = a := by simpa using hk
            omega
        · intro k hk
          by_cases e : k = a
          · simp [e]
          · rw [if_neg e, hI.is k hk, List.mem_append, List.mem_singleton]
            exact ⟨.inl, fun h => h.resolve_right e⟩
        · intro x hx
          rw [b6] at hx
          cases hx
          simp only
          omega)
    (by
      rintro _ G ⟨ks, t, f, rfl, hI, hlen, g, ua, hne⟩
      refine ⟨_, G, ?_, ks, t, f, rfl, hI, hlen, g, trivial⟩
      unfold law30_CellHealth.s1
      simp only [decide_eq_false (show ¬ ((rows.length : Nat) : Int) < (x1.len : Int) by omega), cond_f])
    (y := (⟨some (H.length, 0), 0, 0⟩, ((([] : List Nat).length : Nat) : Int), ((0 : Nat) : Int), ())) (H := H2) ⟨[], _, _, rfl, ⟨List.nodup_nil, by simp, fun k _ => by simp⟩, by simp, hg0, hu0, fun a ha => by cases ha; simp⟩
  exact ⟨t, ks, G, l1, g.row, hI.nod, hI.lt, hlen, g.keep⟩

/-- A read that tells the page, in one step. -/
theorem read_text {H : Heap} {q : CeA} {t : Ce} {D : Int} (h : CeAt H q t) (hq : Std q) (w : Wf q.a t.s D) (hc : Calm t.s) (hr : 0 ≤ t.reads ∧ t.reads ≤ 1000000000) {b p : Nat} (hb : b < 8) (hp : p < 4) {s : Bytes} (hs : s.length = 96) {o : Option Bytes} {m : Nat}
    (hrd : t.s.read q.a b p = rawF s 1 8 (t.seed + (b * 4 + p : Nat))) (hX : turnX q (t.reads + 1) t.X t.N ((b * 4 + p : Nat) : Int) = o) (hf : Fl 104 2 o m) (hm : m ≤ 4) (hz : 40 < zbs (rawF s 1 8 (t.seed + (b * 4 + p : Nat)))) :
    ∃ H', cell_Cells_Read (some (q.c, 0)) (b : Int) (p : Int) H = some ((s.take 64, s.drop 64, 0, ()), H') ∧ Keep q.fp H H' ∧
      CeAt H' q { t.turned q with hw := ((cN 104 (fun k => fxX o k != 0) : Nat) : Int), wk := decide (2 ≤ ((cN 104 (fun k => fxX o k != 0) : Nat) : Int)) } := by
  have hn : q.num (b : Int) (p : Int) = ((b * 4 + p : Nat) : Int) := by rw [num_std hq]; omega
  have hraw : rawX q (t.turned q) b p = mixX (rawF s 1 8 (t.seed + (b * 4 + p : Nat))) o := by
    unfold rawX
    show mixX (t.s.read q.a b p) (turnX q (t.reads + 1) t.X t.N (q.num (b : Int) (p : Int))) = _
    rw [hn, hX, hrd]
  have hrl : (rawF s 1 8 (t.seed + (b * 4 + p : Nat))).length = 104 := by rw [rawF_len, hs]
  have h1 := hf.z1 _ hrl
  have hz2 : 16 < zbs (rawX q (t.turned q) b p) := by rw [hraw]; omega
  have hnz := hf.nz
  have hdec := dec_few hq h.sh hs (seed := t.seed + (b * 4 + p : Nat)) hf.len (by omega)
  have hrC := readC_dec (q := q) (t := t) (b := b) (p := p) (s := s) (n := ((cN 104 (fun k => fxX o k != 0) : Nat) : Int)) (by rw [hq.1]; exact hb) (by rw [hq.2.1]; exact hp) hc.off hz2
  obtain ⟨H', e1, e2, e3⟩ := ce_read h w hr (b : Int) (p : Int) (s, ((cN 104 (fun k => fxX o k != 0) : Nat) : Int), 0) (fun _ _ => ⟨by rw [hn, Int.toNat_natCast, Int.toNat_natCast, hraw]; exact hdec, fun _ => by rw [hs, hq.2.2.1]⟩)
  rw [hrC] at e1 e2
  rw [hq.2.2.1] at e1
  exact ⟨H', e1, e3, e2⟩
theorem read_blank {H : Heap} {q : CeA} {t : Ce} {D : Int} (h : CeAt H q t) (hq : Std q) (w : Wf q.a t.s D) (hc : Calm t.s) (hr : 0 ≤ t.reads ∧ t.reads ≤ 1000000000) {b p : Nat} (hb : b < 8) (hp : p < 4)
    (hz : zbs (mixX (t.s.read q.a b p) (turnX q (t.reads + 1) t.X t.N ((b * 4 + p : Nat) : Int))) ≤ 16) :
    ∃ H', cell_Cells_Read (some (q.c, 0)) (b : Int) (p : Int) H = some ((List.replicate 64 255, List.replicate 32 255, 0, ()), H') ∧ Keep q.fp H H' ∧
      CeAt H' q { t.turned q with wk := !decide (zbs (mixX (t.s.read q.a b p) (turnX q (t.reads + 1) t.X t.N ((b * 4 + p : Nat) : Int))) = 0) } := by
  have hn : q.num (b : Int) (p : Int) = ((b * 4 + p : Nat) : Int) := by rw [num_std hq]; omega
  have hraw : rawX q (t.turned q) b p = mixX (t.s.read q.a b p) (turnX q (t.reads + 1) t.X t.N ((b * 4 + p : Nat) : Int)) := by
    unfold rawX
    show mixX (t.s.read q.a b p) (turnX q (t.reads + 1) t.X t.N (q.num (b : Int) (p : Int))) = _
    rw [hn]
  have hrC := readC_full (q := q) (t := t) (b := b) (p := p) (o := ([], 0, 0)) (by rw [hq.1]; exact hb) (by rw [hq.2.1]; exact hp) hc.off (by rw [hraw]; exact hz)
  obtain ⟨H', e1, e2, e3⟩ := ce_read h w hr (b : Int) (p : Int) ([], 0, 0) (fun _ hh => by rw [Int.toNat_natCast, Int.toNat_natCast, hraw] at hh; omega)
  rw [hrC] at e1 e2
  rw [hq.2.2.1] at e1
  rw [hraw] at e2
  exact ⟨H', e1, e3, e2⟩
end Ev
