/- CellPlays: cells and a chip whose bits never turn, side by side. -/
import Derived.Test.YtpebaginkkbnpaaGreatSLaw30p
namespace Ev
open Go (IntKind)

/-- How much noise of a page has come. -/
def cntR (N : List Noi) (pg r : Int) : Nat := (N.filter fun n => decide (n.2.1 * 4 + n.2.2.1 = pg ∧ 1 ≤ n.1 ∧ n.1 ≤ r)).length
theorem cntR_le (N : List Noi) (pg r : Int) : cntR N pg r ≤ cntP N pg := by
  unfold cntR cntP
  induction N with
  | nil => exact Nat.le_refl _
  | cons n N ih =>
    rw [List.filter_cons, List.filter_cons]
    by_cases h : n.2.1 * 4 + n.2.2.1 = pg ∧ 1 ≤ n.1 ∧ n.1 ≤ r
    · rw [if_pos (decide_eq_true h), if_pos (decide_eq_true h.1)]
      simp only [List.length_cons]; omega
    · rw [if_neg (by simp only [decide_eq_true_eq]; exact h)]
      split
      · simp only [List.length_cons]; omega
      · exact ih

theorem pages_lay' {a : NdA} {s : Nd} {b p : Nat} {t : Bytes} {k j : Nat} (h : k ≠ b) : (s.lay a b p t).pages k j = s.pages k j := by
  unfold Nd.lay upd2
  simp only
  rw [if_neg fun hh => h hh.1]

structure PlR (q : CeA) (t : Ce) (z : Nd) : Prop where
  off : t.s.off = false ∧ z.off = false
  cuts : t.s.cuts = [] ∧ z.cuts = []
  fails : z.fails = t.s.fails
  did : z.did = t.s.did
  dead : ∀ b, z.dead b = t.s.dead b
  emp : ∀ b p, z.pages b p = [] ↔ t.s.pages b p = []
  kept : ∀ b p, t.s.dead b = false → z.pages b p ≠ [] → (z.pages b p).length = 96 ∧ t.s.pages b p = rawF (z.pages b p) 1 8 (3 + ((b * 4 + p : Nat) : Int))
  fl : ∀ pg, Fl 104 1 (t.X pg) (cntR t.N pg t.reads)
  seed : t.seed = 3
  tame : ∀ n ∈ t.N, Tame n
  cnt : ∀ pg, cntP t.N pg ≤ 4

section
variable {q : CeA} {a : NdA} {t : Ce} {z : Nd}

theorem PlR.inE (r : PlR q t z) (hq : Std q) (ha : a.B = 8 ∧ a.P = 4 ∧ a.S = 64) (b p : Int) : z.inE a b p = t.s.inE q.a b p := by
  unfold Nd.inE
  rw [r.off.1, r.off.2, hq.1, hq.2.1, ha.1, ha.2.1]
theorem PlR.used (r : PlR q t z) (hq : Std q) (ha : a.B = 8 ∧ a.P = 4 ∧ a.S = 64) (b p : Nat) : z.used a b p = t.s.used q.a b p := by
  unfold Nd.used
  rw [hq.2.1, ha.2.1]
  congr 1
  funext k
  congr 1
  exact decide_eq_decide.2 (not_congr (r.emp b k))
theorem cutNow_no {s : Nd} (h : s.cuts = []) : s.cutNow = none := by unfold Nd.cutNow; rw [h]; rfl
theorem acted_off {s : Nd} (h : s.cuts = []) (ho : s.off = false) : s.acted.off = false := by
  show (s.off || s.cutNow.isSome) = false
  rw [ho, cutNow_no h]; rfl

set_option maxHeartbeats 1000000 in
theorem plays_prog (r : PlR q t z) (hq : Std q) (ha : a.B = 8 ∧ a.P = 4 ∧ a.S = 64) (haS : q.a.S = 72) (b p : Int) {d sp : Bytes} (h1 : d.length = 64) (h2 : sp.length = 32) :
    (progC q t b p d sp).1 = (z.progT a b p d sp).1 ∧ PlR q (progC q t b p d sp).2 (z.progT a b p d sp).2 := by
  have hin := r.inE hq ha b p
  by_cases he : t.s.inE q.a b p = 0
  case neg =>
    unfold progC Nd.progT
    rw [hin, if_pos he, if_pos he]
    exact ⟨rfl, r⟩
  obtain ⟨_, i, j, rfl, rfl, hi, hj⟩ := in_zero he
  rw [hq.1] at hi
  rw [hq.2.1] at hj
  obtain ⟨T, hT⟩ : ∃ T, T = d ++ sp := ⟨_, rfl⟩
  have hTl : T.length = 96 := by rw [hT, List.length_append]; omega
  have hn : q.num (i : Int) (j : Int) = ((i * 4 + j : Nat) : Int) := by rw [num_std hq]; omega
  have hkl := kept_len (q := q) (s := T) (by rw [hTl, hq.2.2.1]) (3 + ((i * 4 + j : Nat) : Int))
  rw [hq.R] at hkl
  have hus := r.used hq ha i j
  have hB : z.progT a (i : Int) (j : Int) d sp = if t.s.used q.a i j = true then (52, z) else z.program a i j T := by
    unfold Nd.progT
    rw [hin, if_neg (not_not_intro he), if_neg (by rw [ha.2.2]; omega), Int.toNat_natCast, Int.toNat_natCast, hus, hT]
  have hA : t.s.progT q.a (i : Int) (j : Int) ((keptF q (3 + ((i * 4 + j : Nat) : Int)) T).take q.a.S) ((keptF q (3 + ((i * 4 + j : Nat) : Int)) T).drop q.a.S) = if t.s.used q.a i j = true then (52, t.s) else t.s.program q.a i j (keptF q (3 + ((i * 4 + j : Nat) : Int)) T) := by
    unfold Nd.progT
    rw [if_neg (not_not_intro he), if_neg (by rw [List.length_take, List.length_drop]; omega), Int.toNat_natCast, Int.toNat_natCast, List.take_append_drop]
  rw [hB]
  unfold progC
  rw [if_neg (not_not_intro he), if_neg (by rw [hq.2.2.1]; omega)]
  simp only [← hT, hn, r.seed, hA]
  cases hu : t.s.used q.a i j with
  | true =>
    have e : ({ s := t.s, X := t.X, reads := t.reads, hw := t.hw, wk := t.wk, seed := 3, N := t.N } : Ce) = t := by rw [← r.seed]
    simp only [if_true, ne_eq, not_true_eq_false, if_false]
    rw [e]
    exact ⟨trivial, r⟩
  | false =>
    rw [if_neg (by decide), if_neg (by decide)]
    unfold Nd.program
    rw [cutNow_no r.cuts.1, cutNow_no r.cuts.2]
    simp only
    have hdf : (z.dead i = true ∨ z.failNow = true) ↔ (t.s.dead i = true ∨ t.s.failNow = true) := by
      unfold Nd.failNow
      rw [r.dead, r.fails, r.did]
    have hflX : ∀ (X' : Int → Option Bytes), X' = (fun k => if k = ((i * 4 + j : Nat) : Int) then none else t.X k) → ∀ pg, Fl 104 1 (X' pg) (cntR t.N pg t.reads) := by
      rintro X' rfl pg
      by_cases e : pg = ((i * 4 + j : Nat) : Int)
      · simp only [if_pos e]; exact Fl.non _ _ _
      · simp only [if_neg e]; exact r.fl pg
    by_cases hd : t.s.dead i = true ∨ t.s.failNow = true
    · rw [if_pos (hdf.2 hd), if_pos hd]
      simp only
      rw [if_pos (by decide)]
      have hz1 : (List.replicate (keptF q (3 + ((i * 4 + j : Nat) : Int)) T).length (0 : UInt8)) ≠ fullP q.a := by
        rw [hkl]; unfold fullP; rw [haS]; decide
      have hz2 : (List.replicate T.length (0 : UInt8)) ≠ fullP a := by
        rw [hTl]; unfold fullP; rw [ha.2.2]; decide
      refine ⟨trivial, ⟨⟨acted_off r.cuts.1 r.off.1, acted_off r.cuts.2 r.off.2⟩, r.cuts, r.fails, ?_, ?_, ?_, ?_, hflX _ rfl, rfl, r.tame, r.cnt⟩⟩
      · show z.did + 1 = t.s.did + 1
        rw [r.did]
      · intro k
        show upd z.dead i true k = upd t.s.dead i true k
        unfold upd
        rw [r.dead]
      · intro k m
        show upd2 z.pages i j (if List.replicate T.length 0 = fullP a then [] else List.replicate T.length 0) k m = [] ↔ upd2 t.s.pages i j (if List.replicate (keptF q (3 + ((i * 4 + j : Nat) : Int)) T).length 0 = fullP q.a then [] else List.replicate (keptF q (3 + ((i * 4 + j : Nat) : Int)) T).length 0) k m = []
        rw [if_neg hz1, if_neg hz2]
        unfold upd2
        by_cases e : k = i ∧ m = j
        · rw [if_pos e, if_pos e, hTl, hkl]
          constructor <;> intro h <;> (exfalso; revert h; decide)
        · rw [if_neg e, if_neg e]; exact r.emp k m
      · intro k m hk hne
        have hk : upd t.s.dead i true k = false := hk
        have hki : k ≠ i := fun e => by unfold upd at hk; rw [if_pos e] at hk; cases hk
        have hk' : t.s.dead k = false := by unfold upd at hk; rwa [if_neg hki] at hk
        have e1 : ∀ x, (({ z.acted with dead := upd z.dead i true } : Nd).lay a i j x).pages k m = z.pages k m := fun x => pages_lay' hki
        have e2 : ∀ x, (({ t.s.acted with dead := upd t.s.dead i true } : Nd).lay q.a i j x).pages k m = t.s.pages k m := fun x => pages_lay' hki
        rw [e1] at hne ⊢
        simp only [e2]
        exact r.kept k m hk' hne
    · rw [if_neg (fun h => hd (hdf.1 h)), if_neg hd]
      simp only
      rw [if_pos (by decide)]
      have hfa : fullP a = List.replicate 96 255 := by unfold fullP; rw [ha.2.2]
      have hfq : fullP q.a = List.replicate 104 255 := by unfold fullP; rw [haS]
      have hfull : T = fullP a ↔ keptF q (3 + ((i * 4 + j : Nat) : Int)) T = fullP q.a := by
        rw [hfa, hfq]
        constructor
        · intro h
          unfold keptF
          rw [if_pos (by rw [h, zbs_ones]), hq.R]
        · intro h
          have := zbs_zero (kept_ne hq hTl _ h)
          rwa [hTl] at this
      obtain ⟨K, hK⟩ : ∃ K, K = keptF q (3 + ((i * 4 + j : Nat) : Int)) T := ⟨_, rfl⟩
      simp only [← hK] at hkl hfull ⊢
      refine ⟨trivial, ⟨⟨acted_off r.cuts.1 r.off.1, acted_off r.cuts.2 r.off.2⟩, r.cuts, r.fails, ?_, r.dead, ?_, ?_, hflX _ rfl, rfl, r.tame, r.cnt⟩⟩
      · show z.did + 1 = t.s.did + 1
        rw [r.did]
      · intro k m
        show upd2 z.pages i j (if T = fullP a then [] else T) k m = [] ↔ upd2 t.s.pages i j (if K = fullP q.a then [] else K) k m = []
        unfold upd2
        by_cases e : k = i ∧ m = j
        · rw [if_pos e, if_pos e]
          by_cases hf : T = fullP a
          · rw [if_pos hf, if_pos (hfull.1 hf)]
          · rw [if_neg hf, if_neg (fun h => hf (hfull.2 h))]
            constructor
            · intro h; rw [h] at hTl; cases hTl
            · intro h; rw [h] at hkl; cases hkl
        · rw [if_neg e, if_neg e]; exact r.emp k m
      · intro k m hk hne
        replace hk : t.s.dead k = false := hk
        replace hne : upd2 z.pages i j (if T = fullP a then [] else T) k m ≠ [] := hne
        show (upd2 z.pages i j (if T = fullP a then [] else T) k m).length = 96 ∧ upd2 t.s.pages i j (if K = fullP q.a then [] else K) k m = rawF (upd2 z.pages i j (if T = fullP a then [] else T) k m) 1 8 (3 + ((k * 4 + m : Nat) : Int))
        unfold upd2 at hne ⊢
        by_cases e : k = i ∧ m = j
        · obtain ⟨rfl, rfl⟩ := e
          have hkk : k = k ∧ m = m := ⟨rfl, rfl⟩
          rw [if_pos hkk] at hne
          rw [if_pos hkk, if_pos hkk]
          by_cases hf : T = fullP a
          · rw [if_pos hf] at hne; exact absurd rfl hne
          · rw [if_neg hf, if_neg (fun h => hf (hfull.2 h))]
            refine ⟨hTl, ?_⟩
            rw [hK]
            exact kept_std hq (fun h0 => hf (by rw [hfa]; have := zbs_zero h0; rwa [hTl] at this)) _
        · rw [if_neg e] at hne ⊢
          rw [if_neg e]
          exact r.kept k m hk hne

theorem plays_erase (r : PlR q t z) (hq : Std q) (ha : a.B = 8 ∧ a.P = 4 ∧ a.S = 64) (b : Int) : (eraC q t b).1 = (z.eraseT a b).1 ∧ PlR q (eraC q t b).2 (z.eraseT a b).2 := by
  have hin := r.inE hq ha b 0
  unfold eraC
  by_cases he : t.s.inE q.a b 0 = 0
  case neg =>
    have h1 : t.s.eraseT q.a b = (t.s.inE q.a b 0, t.s) := by unfold Nd.eraseT; rw [if_pos he]
    have h2 : z.eraseT a b = (t.s.inE q.a b 0, z) := by unfold Nd.eraseT; rw [hin, if_pos he]
    rw [h1, h2]
    simp only [if_neg he]
    exact ⟨trivial, r⟩
  obtain ⟨_, i, j, rfl, _, hi, hj⟩ := in_zero he
  have hA : t.s.eraseT q.a (i : Int) = t.s.erase q.a i := by unfold Nd.eraseT; rw [if_neg (not_not_intro he), Int.toNat_natCast]
  have hB : z.eraseT a (i : Int) = z.erase a i := by unfold Nd.eraseT; rw [hin, if_neg (not_not_intro he), Int.toNat_natCast]
  rw [hA, hB]
  unfold Nd.erase
  rw [cutNow_no r.cuts.1, cutNow_no r.cuts.2]
  simp only
  have hdf : (z.dead i = true ∨ z.failNow = true) ↔ (t.s.dead i = true ∨ t.s.failNow = true) := by
    unfold Nd.failNow
    rw [r.dead, r.fails, r.did]
  by_cases hd : t.s.dead i = true ∨ t.s.failNow = true
  · rw [if_pos (hdf.2 hd), if_pos hd]
    simp only [show ¬ (54 : Int) = 0 by decide, if_false]
    refine ⟨trivial, ⟨⟨acted_off r.cuts.1 r.off.1, acted_off r.cuts.2 r.off.2⟩, r.cuts, r.fails, ?_, ?_, r.emp, ?_, r.fl, r.seed, r.tame, r.cnt⟩⟩
    · show z.did + 1 = t.s.did + 1
      rw [r.did]
    · intro k
      show upd z.dead i true k = upd t.s.dead i true k
      unfold upd
      rw [r.dead]
    · intro k m hk hne
      have hk : upd t.s.dead i true k = false := hk
      have hki : k ≠ i := fun e => by unfold upd at hk; rw [if_pos e] at hk; cases hk
      exact r.kept k m (by unfold upd at hk; rwa [if_neg hki] at hk) hne
  · rw [if_neg (fun h => hd (hdf.1 h)), if_neg hd]
    simp only [if_true]
    have hz : ∀ k m, ((({ z.acted with worn := upd z.worn i (z.worn i + 1) } : Nd).clear i a.P).pages k m) = if k = i ∧ m < 4 then [] else z.pages k m := fun k m => by
      show (if k = i ∧ m < a.P then [] else z.pages k m) = _
      rw [ha.2.1]
    have ht : ∀ k m, ((({ t.s.acted with worn := upd t.s.worn i (t.s.worn i + 1) } : Nd).clear i q.a.P).pages k m) = if k = i ∧ m < 4 then [] else t.s.pages k m := fun k m => by
      show (if k = i ∧ m < q.a.P then [] else t.s.pages k m) = _
      rw [hq.2.1]
    refine ⟨trivial, ⟨⟨acted_off r.cuts.1 r.off.1, acted_off r.cuts.2 r.off.2⟩, r.cuts, r.fails, ?_, r.dead, ?_, ?_, ?_, r.seed, r.tame, r.cnt⟩⟩
    · show z.did + 1 = t.s.did + 1
      rw [r.did]
    · intro k m
      simp only [hz, ht]
      by_cases e : k = i ∧ m < 4
      · rw [if_pos e, if_pos e]
      · rw [if_neg e, if_neg e]; exact r.emp k m
    · intro k m hk hne
      simp only [hz, ht] at hne ⊢
      by_cases e : k = i ∧ m < 4
      · rw [if_pos e] at hne; exact absurd rfl hne
      · rw [if_neg e] at hne ⊢
        rw [if_neg e]
        exact r.kept k m hk hne
    · intro pg
      by_cases e : q.num i 0 ≤ pg ∧ pg < q.num i 0 + q.a.P
      · simp only [if_pos e]; exact Fl.non _ _ _
      · simp only [if_neg e]; exact r.fl pg
end
end Ev
