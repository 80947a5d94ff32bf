/- What each function of the chip tells and does. -/
import Derived.Test.YtfbecginbilemaaSNand
namespace Ev
open Go (IntKind)

def Nd.inE (a : NdA) (s : Nd) (b p : Int) : Int := if s.off = true then 51 else if b < 0 ∨ (a.B : Int) ≤ b ∨ p < 0 ∨ (a.P : Int) ≤ p then 50 else 0
def fullP (a : NdA) : Bytes := List.replicate (a.S + 32) 255
def tornB (x : Cut) (t : Bytes) : Bytes :=
  t.take (min x.2.1.toNat t.length) ++ List.replicate (t.length - min x.2.1.toNat t.length) (UInt8.ofNat x.2.2.1.toNat)
theorem tornB_length (x : Cut) (t : Bytes) : (tornB x t).length = t.length := by unfold tornB; simp; omega
def Nd.lay (a : NdA) (s : Nd) (b p : Nat) (t : Bytes) : Nd := { s with pages := upd2 s.pages b p (if t = fullP a then [] else t) }
/-- The cut of the next action. -/
def Nd.cutNow (s : Nd) : Option Cut := s.cuts.find? fun x => x.1 == s.did + 1
def Nd.acted (s : Nd) : Nd := { s with did := s.did + 1, off := s.off || s.cutNow.isSome }
def Nd.failNow (s : Nd) : Bool := decide (s.did + 1 ∈ s.fails)
def Nd.used (a : NdA) (s : Nd) (b p : Nat) : Bool := (List.range a.P).any fun q => decide (p ≤ q) && decide (s.pages b q ≠ [])
def Nd.program (a : NdA) (s : Nd) (b p : Nat) (t : Bytes) : Int × Nd :=
  match s.cutNow with
  | some x => (51, s.acted.lay a b p (tornB x t))
  | none => if s.dead b = true ∨ s.failNow = true then (53, { s.acted with dead := upd s.dead b true }.lay a b p (List.replicate t.length 0)) else (0, s.acted.lay a b p t)
def Nd.clear (s : Nd) (b n : Nat) : Nd := { s with pages := fun k q => if k = b ∧ q < n then [] else s.pages k q }
def Nd.erase (a : NdA) (s : Nd) (b : Nat) : Int × Nd :=
  let s1 := { s.acted with worn := upd s.worn b (s.worn b + 1) }
  match s.cutNow with
  | some x =>
    let s2 := s1.clear b (min x.2.1.toNat a.P)
    (51, if 0 ≤ x.2.1 ∧ x.2.1 < (a.P : Int) then s2.lay a b x.2.1.toNat (List.replicate (a.S + 32) (UInt8.ofNat x.2.2.1.toNat)) else s2)
  | none => if s.dead b = true ∨ s.failNow = true then (54, { s1 with dead := upd s.dead b true }) else (0, s1.clear b a.P)
def Nd.domark (s : Nd) (b : Nat) : Int × Nd :=
  match s.cutNow with
  | some x => (51, if 0 < x.2.1 then { s.acted with mark := upd s.mark b true } else s.acted)
  | none => (0, { s.acted with mark := upd s.mark b true })
def Nd.read (a : NdA) (s : Nd) (b p : Nat) : Bytes := if s.pages b p = [] then fullP a else s.pages b p

theorem sum0 {α β γ : Type} (f : α → γ) (g : β → γ) (x : α) : Sum.elim f g (.inl x) = f x := rfl
theorem sum1 {α β γ : Type} (f : α → γ) (g : β → γ) (x : β) : Sum.elim f g (.inr x) = g x := rfl

section
variable {H : Heap} {a : NdA} {s : Nd}

theorem in_nil (b p : Int) (H : Heap) : nand_Chip_in none b p H = some ((1, ()), H) := rfl
theorem nand_in (h : NdAt H a s) (b p : Int) : nand_Chip_in (some (a.c, 0)) b p H = some ((s.inE a b p, ()), H) := by
  unfold nand_Chip_in Nd.inE
  simp only [Option.isNone_some, cond_f, bind_some, Nat.zero_add, h.roff, h.rB, h.rP]
  cases s.off with
  | true => rfl
  | false =>
    by_cases h1 : b < 0
    · simp [h1]
    · by_cases h2 : (a.B : Int) ≤ b
      · simp [h1, h2]
      · by_cases h3 : p < 0
        · simp [h1, h2, h3]
        · by_cases h4 : (a.P : Int) ≤ p
          · simp [h1, h2, h3, h4]
          · simp [h1, h2, h3, h4]

theorem full_of {x0 : Ptr} {a3 : Nat × Nat} {v4 : Int} {s2 : Bytes} (hx : x0 = some a3) (e1 : strOf (H ++ [.cells [.int .u8 255] .exact]) ⟨some (H.length, 0), 1, 1⟩ = some s2) (e4 : rdI .i64 (H ++ [.cells [.int .u8 255] .exact]) a3.1 (a3.2 + 2) = some v4) {f : Bytes} (e3 : strings_Repeat s2 (IntKind.wrap .i64 (v4 + 32)) = some (f, ())) :
    nand_Chip_full x0 H = some ((f, ()), H ++ [.cells [.int .u8 255] .exact]) := by
  unfold nand_Chip_full
  dsimp only
  rw [e1, bind_some, hx, bind_some, e4, bind_some, e3, bind_some]
theorem full_rep {n : Nat} (hs : n ≤ 4294967296) : strings_Repeat [255] (IntKind.wrap .i64 ((n : Int) + 32)) = some (List.replicate (n + 32) 255, ()) := by
  have e2 : IntKind.wrap .i64 ((n : Int) + 32) = ((n + 32 : Nat) : Int) := by rw [wrap_i64 (by omega) (by omega)]; omega
  rw [e2, rep_of (by rw [List.length_singleton]; omega) (by omega), flat1]
theorem nand_full (h : NdAt H a s) : nand_Chip_full (some (a.c, 0)) H = some ((fullP a, ()), H ++ [.cells [.int .u8 255] .exact]) :=
  full_of rfl (strOf_of app_last (by decide) rfl) (by rw [Nat.zero_add]; exact (h.push _).rS) (full_rep h.sz.2.2)

theorem torn_eq (x : Cut) (t : Bytes) (hx : 0 ≤ x.2.2.1 ∧ x.2.2.1 < 256) (ht : t.length ≤ 35184372088832) : nand_torn x t = some (tornB x t, ()) := by
  obtain ⟨at', keep, fill, u⟩ := x
  simp only at hx
  unfold nand_torn nand_torn.on
  have r1 : rdI .i64 [Blk.cells [.int .i64 at', .int .i64 keep, .int .u8 fill] .exact] 0 1 = some keep := rfl
  have r2 : rdI .u8 [Blk.cells [.int .i64 at', .int .i64 keep, .int .u8 fill] .exact] 0 2 = some fill := rfl
  have hm : (if (t.length : Int) < (if 0 > keep then 0 else keep) then (t.length : Int) else (if 0 > keep then 0 else keep)) = ((min keep.toNat t.length : Nat) : Int) := by
    by_cases h0 : 0 > keep
    · rw [if_pos h0, if_neg (by omega)]; omega
    · rw [if_neg h0]
      by_cases h1 : (t.length : Int) < keep
      · rw [if_pos h1]; omega
      · rw [if_neg h1]; omega
  have hs : ∀ B : Blk, strOf [B, Blk.cells [.int .u8 fill] .exact] ⟨some (1, 0), 1, 1⟩ = some [UInt8.ofNat fill.toNat] := fun _ => rfl
  have hsub : subS t 0 ((min keep.toNat t.length : Nat) : Int) = some (t.take (min keep.toNat t.length)) := by
    rw [show (0 : Int) = ((0 : Nat) : Int) from rfl, sub_of (Nat.zero_le _) (by omega)]; rfl
  have hw : IntKind.wrap .i64 ((t.length : Int) - ((min keep.toNat t.length : Nat) : Int)) = ((t.length - min keep.toNat t.length : Nat) : Int) := by
    rw [wrap_i64 (by omega) (by omega)]; omega
  simp only [List.nil_append, List.length_nil, r1, bind_some, hm, hsub, r2, List.cons_append, List.length_cons, Nat.zero_add, hs, hw]
  rw [rep_of (by simp; omega) (by omega), flat1, bind_some, cat_of (by simp; omega), bind_some]; rfl

theorem nand_lay (h : NdAt H a s) {b p : Nat} (hb : b < a.B) (hp : p < a.P) (t : Bytes) : ∃ H', nand_Chip_lay (some (a.c, 0)) (b : Int) (p : Int) t H = some ((), H') ∧ NdAt H' a (s.lay a b p t) ∧ Keep a.fp H H' := by
  unfold nand_Chip_lay
  have h1 := h.push (.cells [.int .u8 255] .exact)
  obtain ⟨H', w1, w2, w3⟩ := h1.wpage hb hp (if t = fullP a then [] else t)
  refine ⟨H', ?_, w2, (Keep.push _ _ _).trans w3⟩
  simp only [nand_full h, bind_some]
  by_cases ht : t = fullP a
  · rw [if_pos ht] at w1
    simp only [ht, decide_true, cond_t, bind_some, Nat.zero_add, h1.rbb, NdAt.atb b hb, h1.rpb hb, NdAt.atp b p hp, w1]
  · rw [if_neg ht] at w1
    simp only [decide_eq_false ht, cond_f, bind_some, Nat.zero_add, h1.rbb, NdAt.atb b hb, h1.rpb hb, NdAt.atp b p hp, w1]

theorem nand_fail (h : NdAt H a s) : nand_Chip_fail (some (a.c, 0)) H = some ((decide (s.did ∈ s.fails), ()), H) := by
  unfold nand_Chip_fail
  have := h.ln
  simp only [bind_some, Nat.zero_add, h.rfs, h.rdid, contains_eq h.fails (by omega)]

theorem cutC_length (l : List Cut) : (cutC l).length = l.length * 3 := rowsC_length (cts := [.int .i64, .int .i64, .int .u8]) l
theorem NdAt.cs_len (h : NdAt H a s) : a.cs.len = s.cuts.length := by
  have hl := h.cuts.len
  rw [cutC_length] at hl
  omega
/-- One cut of the list. -/
theorem NdAt.cut_at (h : NdAt H a s) {i : Nat} (hi : i < s.cuts.length) : ∃ b o, Sl.at 3 a.cs (i : Int) = some (b, o) ∧ @Eq (Option Cut) (rd H (.agg [.int .i64, .int .i64, .int .u8]) b o) (some s.cuts[i]) := by
  have hl2 := h.cs_len
  obtain ⟨b, o, hp, h1, cs, bk, h2, h3, h4⟩ := slRow_cell h.cuts.row (i := i) (by omega) h.cuts.nil
  refine ⟨b, o + i * 3, h1, ?_⟩
  have hlt := lt_mul (i := i) (j := 2) (n := a.cs.len) (es := 3) (by omega) (by decide)
  refine rd_agg_of h2 (by simp; omega) ?_
  have he : (cs.drop (o + i * 3)).take 3 = Tup.mk [.int .i64, .int .i64, .int .u8] s.cuts[i] := by
    apply List.ext_getElem?
    intro j
    rw [List.getElem?_take]
    by_cases hj : j < 3
    · rw [if_pos hj, List.getElem?_drop, h4 j hj]
      exact rowsC_get (cts := [.int .i64, .int .i64, .int .u8]) (rows := s.cuts) (i := i) (List.getElem?_eq_getElem hi) hj
    · rw [if_neg hj, List.getElem?_eq_none (by simp [Tup.mk]; omega)]
  rw [show ([CT.int IntKind.i64, CT.int IntKind.i64, CT.int IntKind.u8] : List CT).length = 3 from rfl, he]
  simp [Tup.mk, Tup.un, CT.mk, CT.un]
  rfl
theorem wr_cut {H : Heap} (x : Cut) : wr (H ++ [.cells [.int .i64 0, .int .i64 0, .int .u8 0] .exact]) H.length 0 [.int .i64 x.1, .int .i64 x.2.1, .int .u8 x.2.2.1] = some (H ++ [cutB x]) := by
  rw [wr_last (by decide) (by simp)]; rfl
theorem rd_cut {H : Heap} {k : Nat} {x : Cut} (h : H[k]? = some (cutB x)) : @Eq (Option Cut) (rd H (.agg [.int .i64, .int .i64, .int .u8]) k 0) (some x) := by
  refine rd_agg_of h (by simp) ?_
  simp [Tup.un, CT.un]
  rfl
theorem wr_cut_at {H : Heap} {k : Nat} {y : Cut} (h : H[k]? = some (cutB y)) (x : Cut) : wr H k 0 [.int .i64 x.1, .int .i64 x.2.1, .int .u8 x.2.2.1] = some (H.set k (cutB x)) := by
  rw [wr_of h (by decide) (by simp)]; rfl

theorem nand_act (h : NdAt H a s) (hd : 0 ≤ s.did ∧ s.did < 4611686018427387904) : ∃ H', nand_Chip_act (some (a.c, 0)) H = some (((s.cutNow.getD cut0), s.cutNow.isSome, ()), H') ∧ NdAt H' a s.acted ∧ Keep a.fp H H' := by
  unfold nand_Chip_act
  have hp := h.push (cutB cut0)
  obtain ⟨H5, w1, w2, w3⟩ := hp.wdid (s.did + 1)
  have ew : IntKind.wrap .i64 (s.did + 1) = s.did + 1 := wrap_i64 (by omega) (by omega)
  have hcl := h.cs_len
  have hln := h.ln
  have hce := hp.rdid
  have hlk : H5[H.length]? = some (cutB cut0) := w3.get app_last (by
    intro hf
    have := h.own_lt (k := H.length) (.inl hf)
    omega)
  have eB : H ++ [Blk.cells [.int .i64 0, .int .i64 0, .int .u8 0] .exact] = H ++ [cutB cut0] := rfl
  obtain ⟨y, G, l1, l2⟩ := loopW_run (step := nand_Chip_act.s1 (some (a.c, 0)) H a.cs) (fun t G => ∃ i : Nat, i ≤ s.cuts.length ∧ t.1 = (i : Int) ∧ NdAt G a { s with did := s.did + 1 } ∧ Keep (fun _ => False) H5 G ∧ ((s.cuts.drop i).find? fun x => x.1 == s.did + 1) = s.cutNow)
    (fun y G => match y with
      | .inl _ => NdAt G a { s with did := s.did + 1 } ∧ Keep (fun _ => False) H5 G ∧ s.cutNow = none
      | .inr z => z.1 = true ∧ ∃ x, s.cutNow = some x ∧ NdAt G a { s with did := s.did + 1, off := true } ∧ Keep (fun k => a.fp k ∨ k = H.length) H5 G ∧ G[H.length]? = some (cutB x))
    (fun t _ => s.cuts.length - t.1.toNat)
    (by
      rintro ⟨j, u⟩ G ⟨i, hi, hj, hG, hK, hF⟩
      have hj : j = (i : Int) := hj
      subst hj
      unfold nand_Chip_act.s1
      by_cases hlt : i < s.cuts.length
      · have hd1 : decide ((i : Int) < (a.cs.len : Int)) = true := decide_eq_true (by omega)
        obtain ⟨b, o, g1, g2⟩ := hG.cut_at (i := i) hlt
        have g2' : @Eq (Option Cut) (rd G (.agg [.int .i64, .int .i64, .int .u8]) b o) (some s.cuts[i]) := g2
        simp only [hd1, cond_t, g1, bind_some, g2']
        rw [wr_cut, bind_some]
        have hG2 := hG.push (cutB s.cuts[i])
        have r1 : rdI .i64 (G ++ [cutB s.cuts[i]]) G.length 0 = some s.cuts[i].1 := rdI_of app_last rfl
        have r2 : rdI .i64 (G ++ [cutB s.cuts[i]]) a.c 6 = some (s.did + 1) := hG2.rdid
        simp only [r1, bind_some, Nat.zero_add, r2]
        rw [List.drop_eq_getElem_cons hlt, List.find?_cons] at hF
        by_cases he : s.cuts[i].1 = s.did + 1
        · have hF1 : s.cutNow = some s.cuts[i] := by rw [← hF]; simp [he]
          obtain ⟨G3, v1, v2, v3⟩ := hG2.woff true
          have hx : G3[G.length]? = some (cutB s.cuts[i]) := v3.get app_last (by
            intro hf
            have := hG.own_lt (k := G.length) (.inl hf)
            omega)
          have hkG : (G ++ [cutB s.cuts[i]])[H.length]? = some (cutB cut0) := by
            rw [app_lt (Nat.lt_of_lt_of_le (get_lt hlk) hK.len)]
            exact hK.get hlk id
          have hz : G3[H.length]? = some (cutB cut0) := v3.get hkG (by
            intro hf
            have := h.own_lt (k := H.length) (.inl hf)
            omega)
          have hkset : Keep (fun k => k = H.length) G3 (G3.set H.length (cutB s.cuts[i])) := Keep.set _ _ _ rfl
          simp only [decide_eq_true he, cond_t, v1, bind_some, rd_cut hx]
          rw [wr_cut_at hz, bind_some]
          refine ⟨rfl, s.cuts[i], hF1, v2.keep hkset ?_, ?_, set_get (get_lt hz)⟩
          · intro k hk e
            subst e
            have := h.own_lt hk
            omega
          · exact (((hK.mono (fun _ => False.elim)).trans (Keep.push _ _ _)).trans (v3.mono fun k hk => .inl hk)).trans (hkset.mono fun k hk => .inr hk)
        · have hF1 : ((s.cuts.drop (i + 1)).find? fun x => x.1 == s.did + 1) = s.cutNow := by
            have : (s.cuts[i].1 == s.did + 1) = false := by simpa using he
            rw [this] at hF; exact hF
          simp only [decide_eq_false he, cond_f, Round, wrap_succ (show i < 9223372036854775807 by omega)]
          exact ⟨⟨i + 1, hlt, rfl, hG2, hK.trans (Keep.push _ _ _), hF1⟩, by simp; omega⟩
      · have hd1 : decide ((i : Int) < (a.cs.len : Int)) = false := decide_eq_false (by omega)
        simp only [hd1, cond_f, Round]
        rw [List.drop_eq_nil_of_le (by omega)] at hF
        exact ⟨hG, hK, hF.symm⟩) (0, ()) H5 ⟨0, Nat.zero_le _, rfl, w2, Keep.refl _ _, rfl⟩
  have hk5 : Keep a.fp H H5 := (Keep.push _ _ _).trans w3
  simp only [eB, bind_some, Nat.zero_add, hp.rdid, ew, w1, w2.rcs, l1]
  cases y with
  | inl _ =>
    obtain ⟨m1, m2, m3⟩ : NdAt G a { s with did := s.did + 1 } ∧ Keep (fun _ => False) H5 G ∧ s.cutNow = none := l2
    have hz : G[H.length]? = some (cutB cut0) := m2.get hlk id
    have hkset : Keep (fun k => k = H.length) G (G.set H.length (cutB cut0)) := Keep.set _ _ _ rfl
    have hw := wr_cut_at hz cut0
    have hw' : wr G H.length 0 [.int .i64 0, .int .i64 0, .int .u8 0] = some (G.set H.length (cutB cut0)) := hw
    simp only [sum0, hw', bind_some, rd_cut (set_get (get_lt hz)), m3, Option.isSome_none, Option.getD_none]
    refine ⟨_, rfl, ?_, ?_⟩
    · have e : s.acted = { s with did := s.did + 1 } := by unfold Nd.acted; rw [m3]; simp
      rw [e]
      refine m1.keep hkset ?_
      intro k hk e
      subst e
      have := h.own_lt hk
      omega
    · exact (((hk5.mono (G := fun k => a.fp k ∨ k = H.length) fun k => .inl).trans (m2.mono fun _ => False.elim)).trans (hkset.mono fun k hk => .inr hk)).new fun k hk hlt => hk.resolve_right (by omega)
  | inr z =>
    obtain ⟨e1, x, e2, m1, m2, m3⟩ : z.1 = true ∧ ∃ x, s.cutNow = some x ∧ NdAt G a { s with did := s.did + 1, off := true } ∧ Keep (fun k => a.fp k ∨ k = H.length) H5 G ∧ G[H.length]? = some (cutB x) := l2
    simp only [sum1, rd_cut m3, bind_some, e1, e2, Option.isSome_some, Option.getD_some]
    refine ⟨_, rfl, ?_, ?_⟩
    · have e : s.acted = { s with did := s.did + 1, off := true } := by unfold Nd.acted; rw [e2]; simp
      rw [e]; exact m1
    · exact ((hk5.mono (G := fun k => a.fp k ∨ k = H.length) fun k => .inl).trans m2).new fun k hk hlt => hk.resolve_right (by omega)
end
end Ev
