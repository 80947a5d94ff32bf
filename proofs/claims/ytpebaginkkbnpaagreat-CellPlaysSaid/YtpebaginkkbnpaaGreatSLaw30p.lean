/- CellPlays: the noise that is let in. -/
import Derived.Test.YtpebaginkkbnpaaGreatSLaw30m
namespace Ev
open Go (IntKind)

def IAt (H : Heap) (c n : Nat) (f : Nat → Int) : Prop := H[c]? = some (.cells (arrC n fun k => [.int .i64 (f k)]) .exact)
theorem IAt.get {H : Heap} {c n : Nat} {f : Nat → Int} (h : IAt H c n f) {i : Nat} (hi : i < n) : rdI .i64 H c i = some (f i) := by
  have := arrC_get (f := fun k => [C.int .i64 (f k)]) (es := 1) (fun _ => rfl) (j := 0) (by decide) hi
  rw [Nat.mul_one, Nat.add_zero] at this
  exact rdI_of h this
theorem IAt.set {H : Heap} {c n : Nat} {f : Nat → Int} (h : IAt H c n f) {i : Nat} (hi : i < n) (x : Int) : ∃ G, wr H c i [.int .i64 x] = some G ∧ IAt G c n (fun k => if k = i then x else f k) ∧ Keep (fun j => j = c) H G := by
  have hl := arrC_length (f := fun k => [C.int .i64 (f k)]) (es := 1) (fun _ => rfl) n
  have hs := arrC_set (f := fun k => [C.int .i64 (f k)]) (es := 1) (fun _ => rfl) (j := 0) (by decide) (.int .i64 x) hi
  rw [Nat.mul_one, Nat.add_zero] at hs
  refine ⟨_, wr1_of h (by decide) (by omega), ?_, Keep.set _ _ _ rfl⟩
  unfold IAt
  rw [set_get (get_lt h), hs]
  congr 2
  refine arrC_congr fun k _ => ?_
  by_cases hk : k = i
  · subst hk; simp
  · simp [hk]

/-- How much noise of a page there is. -/
def cntP (N : List Noi) (pg : Int) : Nat := (N.filter fun n => decide (n.2.1 * 4 + n.2.2.1 = pg)).length
structure Tame (n : Noi) : Prop where
  b : 0 ≤ n.2.1 ∧ n.2.1 < 8
  p : 0 ≤ n.2.2.1 ∧ n.2.2.1 < 4
  y : 0 ≤ n.2.2.2.1 ∧ n.2.2.2.1 < 104
  v : ∃ j, j < 8 ∧ n.2.2.2.2.1 = un (UInt8.ofNat (2 ^ j))
theorem cntP_snoc (N : List Noi) (n : Noi) (pg : Int) : cntP (N ++ [n]) pg = cntP N pg + (if n.2.1 * 4 + n.2.2.1 = pg then 1 else 0) := by
  unfold cntP
  rw [List.filter_append, List.length_append]
  congr 1
  by_cases h : n.2.1 * 4 + n.2.2.1 = pg
  · rw [if_pos h]; simp [h]
  · rw [if_neg h]; simp [h]
theorem pow_bits : ∀ j, j < 8 → IntKind.wrap .u8 (1 * 2 ^ j) = un (UInt8.ofNat (2 ^ j)) := by decide +kernel

set_option maxHeartbeats 2000000 in
theorem noise_eq {H : Heap} {x0 : Sl} {l : List Noi} (hrow : Row H 5 x0 (noiC l)) (hwf : ∀ n ∈ l, 0 ≤ n.2.2.2.2.1 ∧ n.2.2.2.2.1 < 256) : ∃ t G N, law30_noise x0 H = some ((t, ()), G) ∧ Row G 5 t (noiC N) ∧ Keep (fun _ => False) H G ∧ N.length ≤ 40 ∧ (∀ n ∈ N, Tame n) ∧ ∀ pg, cntP N pg ≤ 4 := by
  have hxl : x0.len = l.length := by
    have := hrow.len
    have e : (noiC l).length = l.length * 5 := rowsC_length (cts := noiT) l
    omega
  have hg0 : GrowN H ((H ++ [Blk.cells [] .exact]) ++ [Blk.cells (arrC 32 fun _ => [.int .i64 0]) .exact]) 5 ⟨some (H.length, 0), 0, 0⟩ (noiC []) := (GrowN.em (Keep.refl _ H) 5).more _
  have hl1 : (H ++ [Blk.cells [] .exact]).length = H.length + 1 := by simp
  have hu0 : IAt ((H ++ [Blk.cells [] .exact]) ++ [Blk.cells (arrC 32 fun _ => [.int .i64 0]) .exact]) (H.length + 1) 32 (fun _ => 0) := by
    unfold IAt
    rw [← hl1]; exact app_last
  have hw0 : wr ((H ++ [Blk.cells [] .exact]) ++ [Blk.cells (arrC 32 fun _ => [.int .i64 0]) .exact]) (H ++ [Blk.cells [] .exact]).length 0 (arrC 32 fun _ => [.int .i64 0]) = some ((H ++ [Blk.cells [] .exact]) ++ [Blk.cells (arrC 32 fun _ => [.int .i64 0]) .exact]) := by
    rw [wr_last (by decide) (by decide)]
    rfl
  obtain ⟨x, G, l1, t, N, rfl, g, h1, h2, h3⟩ := loop_rise (step := law30_noise.s1 x0 (H ++ [Blk.cells [] .exact])) (min l.length 40)
    (fun i y G => ∃ (t : Sl) (N : List Noi) (f : Nat → Int), y = (t, (i : Int), ()) ∧ GrowN H G 5 t (noiC N) ∧ IAt G (H.length + 1) 32 f ∧ (∀ a, t.p = some a → a.1 ≠ H.length + 1) ∧ N.length ≤ i ∧ (∀ n ∈ N, Tame n) ∧ (∀ k, k < 32 → f k = (cntP N (k : Int) : Int)) ∧ ∀ pg, cntP N pg ≤ 4)
    (fun x G => ∃ (t : Sl) (N : List Noi), x = (t, ()) ∧ GrowN H G 5 t (noiC N) ∧ N.length ≤ 40 ∧ (∀ n ∈ N, Tame n) ∧ ∀ pg, cntP N pg ≤ 4)
    (by
      rintro i _ G hi ⟨t, N, f, rfl, g, ia, hne, hlen, htame, hf, hcnt⟩
      left
      have hi1 : i < l.length := by omega
      have hgk : Row G 5 x0 (noiC l) := hrow.keep g.keep fun _ _ _ => id
      obtain ⟨rb, ro, _, a1, _, cs, bk, a2, a3, a4⟩ := Row.at (cts := noiT) hgk hi1 (by decide)
      have a5 : @Eq (Option (Int × Int × Int × Int × Int × Unit)) (rd G (.agg [.int .i64, .int .i64, .int .i64, .int .i64, .int .u8]) rb ro) (some l[i]) := by
        refine rd_agg_of a2 a3 ?_
        have h4' : (cs.drop ro).take 5 = Tup.mk noiT l[i] := a4
        show Tup.un noiT ((cs.drop ro).take 5) = some l[i]
        rw [h4']; rfl
      have a1' : Sl.at 5 x0 (i : Int) = some (rb, ro) := a1
      have hv := hwf _ (List.getElem_mem hi1)
      generalize l[i] = nn at a5 hv
      obtain ⟨nA, nB, nP, nY, nV, u⟩ := nn
      simp only at hv
      obtain ⟨b, hb, hb2⟩ := low_of nB 3 (by decide)
      obtain ⟨p, hp, hp2⟩ := low_of nP 2 (by decide)
      obtain ⟨y, hy, hy2⟩ := tmod_pick nY 104 (by decide) (by decide)
      have hb2' : bitsI .and .i64 nB 7 = (b : Int) := hb2
      have hp2' : bitsI .and .i64 nP 3 = (p : Int) := hp2
      have hy2' : Int.tmod (IntKind.wrap .i64 (Int.tmod nY 104 + 104)) 104 = (y : Int) := hy2
      have hb8 : b < 8 := hb
      have hp4 : p < 4 := hp
      obtain ⟨j, hj, hj2⟩ : ∃ j : Nat, j < 8 ∧ bitsI .and .u8 nV 7 = (j : Int) := by
        obtain ⟨v, rfl⟩ : ∃ v : Nat, nV = (v : Int) := ⟨nV.toNat, by omega⟩
        refine ⟨v &&& 7, ?_, and8 (by omega) (by decide)⟩
        have := Nat.and_le_right (n := v) (m := 7)
        omega
      have hjw : IntKind.wrap .u64 (j : Int) = (j : Int) := by rw [wrap_u64]; omega
      have hbits : IntKind.wrap .u8 (1 * 2 ^ (min (Int.toNat (j : Int)) (IntKind.bits .u8))) = un (UInt8.ofNat (2 ^ j)) := by
        rw [Int.toNat_natCast, show IntKind.bits .u8 = 8 from rfl, Nat.min_eq_left (by omega)]
        exact pow_bits j hj
      have w0 : wr (G ++ [Blk.cells [.int .i64 0, .int .i64 0, .int .i64 0, .int .i64 0, .int .u8 0] .exact]) G.length 0 [.int .i64 nA, .int .i64 nB, .int .i64 nP, .int .i64 nY, .int .u8 nV] = some (G ++ [.cells [.int .i64 nA, .int .i64 nB, .int .i64 nP, .int .i64 nY, .int .u8 nV] .exact]) := wr_last (by decide) (by simp)
      have w1 : wr (G ++ [Blk.cells [.int .i64 nA, .int .i64 nB, .int .i64 nP, .int .i64 nY, .int .u8 nV] .exact]) G.length 1 [.int .i64 (b : Int)] = some (G ++ [.cells [.int .i64 nA, .int .i64 b, .int .i64 nP, .int .i64 nY, .int .u8 nV] .exact]) := wr_last (by decide) (by simp)
      have w2 : wr (G ++ [Blk.cells [.int .i64 nA, .int .i64 b, .int .i64 nP, .int .i64 nY, .int .u8 nV] .exact]) G.length 2 [.int .i64 (p : Int)] = some (G ++ [.cells [.int .i64 nA, .int .i64 b, .int .i64 p, .int .i64 nY, .int .u8 nV] .exact]) := wr_last (by decide) (by simp)
      have w3 : wr (G ++ [Blk.cells [.int .i64 nA, .int .i64 b, .int .i64 p, .int .i64 nY, .int .u8 nV] .exact]) G.length 3 [.int .i64 (y : Int)] = some (G ++ [.cells [.int .i64 nA, .int .i64 b, .int .i64 p, .int .i64 y, .int .u8 nV] .exact]) := wr_last (by decide) (by simp)
      have w4 : wr (G ++ [Blk.cells [.int .i64 nA, .int .i64 b, .int .i64 p, .int .i64 y, .int .u8 nV] .exact]) G.length 4 [.int .u8 (un (UInt8.ofNat (2 ^ j)))] = some (G ++ [.cells [.int .i64 nA, .int .i64 b, .int .i64 p, .int .i64 y, .int .u8 (un (UInt8.ofNat (2 ^ j)))] .exact]) := wr_last (by decide) (by simp)
      have rr : ∀ (c1 c2 c3 c4 c5 : C), (G ++ [Blk.cells [c1, c2, c3, c4, c5] .exact])[G.length]? = some (.cells [c1, c2, c3, c4, c5] .exact) := fun _ _ _ _ _ => app_last
      have r1 : rdI .i64 (G ++ [Blk.cells [.int .i64 nA, .int .i64 nB, .int .i64 nP, .int .i64 nY, .int .u8 nV] .exact]) G.length 1 = some nB := rdI_of (rr _ _ _ _ _) rfl
      have r2 : rdI .i64 (G ++ [Blk.cells [.int .i64 nA, .int .i64 nB, .int .i64 nP, .int .i64 nY, .int .u8 nV] .exact]) G.length 2 = some nP := rdI_of (rr _ _ _ _ _) rfl
      have r3 : rdI .i64 (G ++ [Blk.cells [.int .i64 nA, .int .i64 nB, .int .i64 nP, .int .i64 nY, .int .u8 nV] .exact]) G.length 3 = some nY := rdI_of (rr _ _ _ _ _) rfl
      have r4 : rdI .u8 (G ++ [Blk.cells [.int .i64 nA, .int .i64 nB, .int .i64 nP, .int .i64 nY, .int .u8 nV] .exact]) G.length 4 = some nV := rdI_of (rr _ _ _ _ _) rfl
      let row : List C := [.int .i64 nA, .int .i64 b, .int .i64 p, .int .i64 y, .int .u8 (un (UInt8.ofNat (2 ^ j)))]
      have q1 : rdI .i64 (G ++ [Blk.cells [.int .i64 nA, .int .i64 b, .int .i64 p, .int .i64 y, .int .u8 (un (UInt8.ofNat (2 ^ j)))] .exact]) G.length 1 = some (b : Int) := rdI_of (rr _ _ _ _ _) rfl
      have q2 : rdI .i64 (G ++ [Blk.cells [.int .i64 nA, .int .i64 b, .int .i64 p, .int .i64 y, .int .u8 (un (UInt8.ofNat (2 ^ j)))] .exact]) G.length 2 = some (p : Int) := rdI_of (rr _ _ _ _ _) rfl
      have hidx : IntKind.wrap .i64 ((IntKind.wrap .i64 ((b : Int) * 4)) + (p : Int)) = ((b * 4 + p : Nat) : Int) := by
        rw [wrap_i64 (n := (b : Int) * 4) (by omega) (by omega), wrap_i64 (by omega) (by omega)]; omega
      have hlt32 : b * 4 + p < 32 := by omega
      have hat : arrAt 1 32 ((H ++ [Blk.cells [] .exact]).length, 0) ((b * 4 + p : Nat) : Int) = some (H.length + 1, b * 4 + p) := by
        unfold arrAt
        rw [decide_eq_true (show 0 ≤ ((b * 4 + p : Nat) : Int) ∧ ((b * 4 + p : Nat) : Int) < ((32 : Nat) : Int) by omega), cond_t, hl1, Int.toNat_natCast]
        simp
      have hkG : Keep (fun _ => False) G (G ++ [Blk.cells [.int .i64 nA, .int .i64 b, .int .i64 p, .int .i64 y, .int .u8 (un (UInt8.ofNat (2 ^ j)))] .exact]) := Keep.push _ _ _
      have ia2 : IAt (G ++ [Blk.cells [.int .i64 nA, .int .i64 b, .int .i64 p, .int .i64 y, .int .u8 (un (UInt8.ofNat (2 ^ j)))] .exact]) (H.length + 1) 32 f := hkG.get ia id
      have g2 := g.more (.cells [.int .i64 nA, .int .i64 b, .int .i64 p, .int .i64 y, .int .u8 (un (UInt8.ofNat (2 ^ j)))] .exact)
      have hvG := rr (.int .i64 nA) (.int .i64 b) (.int .i64 p) (.int .i64 y) (.int .u8 (un (UInt8.ofNat (2 ^ j))))
      have hlG : H.length + 1 < G.length := get_lt ia
      have hlt1 : decide ((i : Int) < (x0.len : Int)) = true := decide_eq_true (by omega)
      have hlt2 : decide ((i : Int) < 40) = true := decide_eq_true (by omega)
      have hneg : decide ((IntKind.wrap .u64 (bitsI .and .u8 nV 7)) < 0) = false := by rw [hj2, hjw]; exact decide_eq_false (by omega)
      have hw := wrap_succ (show i < 9223372036854775807 by omega)
      unfold law30_noise.s1
      simp only [hlt1, hlt2, cond_t, a1', bind_some, a5, w0, r1, r2, r3, r4, hneg, cond_f, hb2', w1, hp2', w2, hy2', w3]
      rw [hj2, hjw, hbits]
      simp only [w4, bind_some, q1, q2, hidx, hat]
      obtain ⟨G2, hG2⟩ : ∃ x, x = G ++ [Blk.cells [.int .i64 nA, .int .i64 b, .int .i64 p, .int .i64 y, .int .u8 (un (UInt8.ofNat (2 ^ j)))] .exact] := ⟨_, rfl⟩
      have hl2 : G2.length = G.length + 1 := by rw [hG2]; simp
      simp only [← hG2] at ia2 g2 hvG ⊢
      simp only [ia2.get hlt32, bind_some]
      have hfk := hf _ hlt32
      by_cases h4 : f (b * 4 + p) < 4
      · rw [decide_eq_true h4, cond_t]
        have hwf1 : IntKind.wrap .i64 (f (b * 4 + p) + 1) = f (b * 4 + p) + 1 := wrap_i64 (by omega) (by omega)
        obtain ⟨G3, c1, c2, c3⟩ := ia2.set hlt32 (f (b * 4 + p) + 1)
        have g3 := g2.stay c3 fun jj hj hjl => by
          subst hj
          exact ⟨by omega, hne⟩
        have hv3 : G3[G.length]? = some (.cells row .exact) := c3.get hvG (by omega)
        have hrd : @Eq (Option (Int × Int × Int × Int × Int × Unit)) (rd G3 (.agg [.int .i64, .int .i64, .int .i64, .int .i64, .int .u8]) G.length 0) (some (nA, (b : Int), (p : Int), (y : Int), un (UInt8.ofNat (2 ^ j)), ())) := by
          refine rd_agg_of hv3 (by simp [row]) ?_
          simp [row, Tup.un, CT.un]
          rfl
        have htl := noi_grow g3
        obtain ⟨t', G4, b1, b2, b3, b4, b5, bb, b6, b7⟩ := g3.one (bytes := 40) (new := row) (by decide) rfl (by omega) (by omega)
        have ia4 := b5.get c2 fun ⟨o, ho⟩ => hne _ ho rfl
        simp only [hwf1, c1, bind_some, hrd]
        rw [show slRow (G3 ++ [Blk.cells [.int .i64 nA, .int .i64 (b : Int), .int .i64 (p : Int), .int .i64 (y : Int), .int .u8 (un (UInt8.ofNat (2 ^ j)))] .exact]) 5 ⟨some (G3.length, 0), 1, 1⟩ = some row from b1]
        simp only [bind_some]
        rw [show appS (G3 ++ [Blk.cells [.int .i64 nA, .int .i64 (b : Int), .int .i64 (p : Int), .int .i64 (y : Int), .int .u8 (un (UInt8.ofNat (2 ^ j)))] .exact]) 5 40 t 1 row = some (t', G4) from b2]
        simp only [bind_some, hw]
        have hl3 : G2.length ≤ G3.length := c3.len
        refine ⟨_, G4, rfl, t', N ++ [(nA, (b : Int), (p : Int), (y : Int), un (UInt8.ofNat (2 ^ j)), ())], _, rfl, by rw [noiC_snoc]; exact b3, ia4, ?_, by rw [List.length_append]; simp; omega, ?_, ?_, ?_⟩
        · intro a ha
          rw [b6] at ha
          cases ha
          simp only
          omega
        · intro n hn
          rcases List.mem_append.1 hn with hn | hn
          · exact htame n hn
          · have hn : n = (nA, (b : Int), (p : Int), (y : Int), un (UInt8.ofNat (2 ^ j)), ()) := by simpa using hn
            subst hn
            exact ⟨by show 0 ≤ (b : Int) ∧ (b : Int) < 8; omega, by show 0 ≤ (p : Int) ∧ (p : Int) < 4; omega, by show 0 ≤ (y : Int) ∧ (y : Int) < 104; omega, j, hj, rfl⟩
        · intro k hk
          rw [cntP_snoc]
          simp only
          by_cases e : k = b * 4 + p
          · subst e
            rw [if_pos rfl, if_pos (by omega), hfk]; omega
          · rw [if_neg e, if_neg (by omega), hf k hk]; omega
        · intro pg
          rw [cntP_snoc]
          simp only
          by_cases e : (b : Int) * 4 + (p : Int) = pg
          · rw [if_pos e]
            have : pg = ((b * 4 + p : Nat) : Int) := by omega
            rw [this]
            omega
          · rw [if_neg e]; exact hcnt pg
      · rw [decide_eq_false h4, cond_f]
        simp only [hw]
        exact ⟨_, G2, rfl, t, N, f, rfl, g2, ia2, hne, by omega, htame, hf, hcnt⟩)
    (by
      rintro _ G ⟨t, N, f, rfl, g, ia, hne, hlen, htame, hf, hcnt⟩
      refine ⟨_, G, ?_, t, N, rfl, g, by omega, htame, hcnt⟩
      unfold law30_noise.s1
      by_cases c : l.length ≤ 40
      · rw [Nat.min_eq_left c]
        simp only [decide_eq_false (show ¬ ((l.length : Nat) : Int) < (x0.len : Int) by omega), cond_f]
      · rw [Nat.min_eq_right (by omega)]
        simp only [decide_eq_true (show ((40 : Nat) : Int) < (x0.len : Int) by omega), cond_t, decide_eq_false (show ¬ ((40 : Nat) : Int) < 40 by omega), cond_f])
    (y := (⟨some (H.length, 0), 0, 0⟩, ((0 : Nat) : Int), ())) (H := (H ++ [Blk.cells [] .exact]) ++ [Blk.cells (arrC 32 fun _ => [.int .i64 0]) .exact]) ⟨_, [], _, rfl, hg0, hu0, (fun a ha => by cases ha; simp), by simp, (fun n hn => by cases hn), (fun k _ => rfl), fun pg => by simp [cntP]⟩
  refine ⟨t, G, N, ?_, g.row, g.keep, h1, h2, h3⟩
  have e : (arrC 32 fun _ => [C.int .i64 0]) = [.int .i64 0, .int .i64 0, .int .i64 0, .int .i64 0, .int .i64 0, .int .i64 0, .int .i64 0, .int .i64 0, .int .i64 0, .int .i64 0, .int .i64 0, .int .i64 0, .int .i64 0, .int .i64 0, .int .i64 0, .int .i64 0, .int .i64 0, .int .i64 0, .int .i64 0, .int .i64 0, .int .i64 0, .int .i64 0, .int .i64 0, .int .i64 0, .int .i64 0, .int .i64 0, .int .i64 0, .int .i64 0, .int .i64 0, .int .i64 0, .int .i64 0, .int .i64 0] := rfl
  rw [e] at hw0 l1
  have l1' : loopW (law30_noise.s1 x0 (H ++ [Blk.cells [] .exact])) (⟨some (H.length, 0), 0, 0⟩, 0, ()) ((H ++ [Blk.cells [] .exact]) ++ [Blk.cells [.int .i64 0, .int .i64 0, .int .i64 0, .int .i64 0, .int .i64 0, .int .i64 0, .int .i64 0, .int .i64 0, .int .i64 0, .int .i64 0, .int .i64 0, .int .i64 0, .int .i64 0, .int .i64 0, .int .i64 0, .int .i64 0, .int .i64 0, .int .i64 0, .int .i64 0, .int .i64 0, .int .i64 0, .int .i64 0, .int .i64 0, .int .i64 0, .int .i64 0, .int .i64 0, .int .i64 0, .int .i64 0, .int .i64 0, .int .i64 0, .int .i64 0, .int .i64 0] .exact]) = some ((t, ()), G) := l1
  unfold law30_noise
  simp only [hw0, bind_some, l1']
end Ev
