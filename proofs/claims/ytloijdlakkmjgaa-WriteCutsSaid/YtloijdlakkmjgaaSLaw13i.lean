/- Chapter 13: what holds of a chip and its writer, when the power stays. -/
import Derived.Test.YtloijdlakkmjgaaSLaw13
namespace Ev
open Go (IntKind)

/-- What holds as long as the power stays. -/
structure WInv (a : NdA) (s : Nd) (v : Wr) : Prop where
  cuts : s.cuts = []
  off : s.off = false
  kind : ∀ i, i < a.B → 0 ≤ v.lf.l i ∧ v.lf.l i ≤ 3
  op : v.lf.op < 0 ∨ ∃ b : Nat, b < a.B ∧ v.lf.op = (b : Int) ∧ v.lf.l b = 1 ∧ v.lf.nx < a.P ∧ ∀ q, v.lf.nx ≤ q → q < a.P → s.pages b q = []
  free : ∀ i, i < a.B → v.lf.l i = 0 → ∀ q, q < a.P → s.pages i q = []
  dead : ∀ i, i < a.B → s.dead i = true → v.lf.l i = 3
  one : ∀ i, i < a.B → v.lf.l i = 1 → v.lf.op = (i : Int)
theorem inE_yes {a : NdA} {s : Nd} {i q : Nat} (ho : s.off = false) (hi : i < a.B) (hq : q < a.P) : s.inE a (i : Int) (q : Int) = 0 := by
  unfold Nd.inE
  rw [if_neg (by simp [ho]), if_neg (by omega)]
theorem try_calm {a : NdA} {s : Nd} {t : Tg} {x : Bytes} {v : Wr} {b : Nat} (hc : s.cuts = []) (ho : s.off = false) (hb : b < a.B) (hn : v.lf.nx < a.P) (hp : ∀ q, v.lf.nx ≤ q → q < a.P → s.pages b q = []) (hd : s.dead b = false) (hx : x.length ≤ a.S) :
    tryW a s t x v b = if s.failNow = true then (53, ({ s.acted with dead := upd s.dead b true } : Nd).lay a b v.lf.nx (List.replicate (a.S + 32) 0)) else (0, s.acted.lay a b v.lf.nx (frameB a (t.worn (v.worn b)) x)) := by
  have h0 : s.inE a (b : Int) (v.lf.nx : Int) = 0 := inE_yes ho hb hn
  have hu : s.used a b v.lf.nx = false := used_false hp
  have hdl := dataOf_length hx
  have hsl := spareOf_length (t.worn (v.worn b)) x a.S
  have hfl : (frameB a (t.worn (v.worn b)) x).length = a.S + 32 := frameB_length hx
  unfold tryW Nd.progT
  rw [if_neg (by rw [h0]; simp), if_neg (by rw [hdl, hsl]; omega), Int.toNat_natCast, Int.toNat_natCast, hu]
  simp only [Bool.false_eq_true, if_false]
  unfold Nd.program
  rw [cutNow_nil hc]
  simp only [hd, Bool.false_eq_true, false_or]
  have e : dataOf x a.S ++ spareOf (t.worn (v.worn b)) x a.S = frameB a (t.worn (v.worn b)) x := rfl
  rw [e, hfl]
/-- The block that is written after opening. -/
theorem WInv.opened {a : NdA} {e : LfA} {s : Nd} {v v1 : Wr} (i : WInv a s v) (eB : e.B = a.B) (hP : 0 < a.P) (o : Opened e v true v1) : ∃ b, b < a.B ∧ v1.lf.op = (b : Int) ∧ v1.lf.l b = 1 ∧ v1.lf.nx < a.P ∧ (∀ q, v1.lf.nx ≤ q → q < a.P → s.pages b q = []) ∧ s.dead b = false ∧ v1.worn = v.worn ∧ v1.bad = v.bad ∧ WInv a s v1 := by
  rcases o with ⟨h1, _, rfl⟩ | ⟨h1, _, b, hb, hf, _, rfl⟩ | ⟨_, h, _⟩
  · rcases i.op with hh | ⟨b, hb, ho, hl, hn, hq⟩
    · omega
    · refine ⟨b, hb, ho, hl, hn, hq, ?_, rfl, rfl, i⟩
      cases hd : s.dead b with
      | false => rfl
      | true => have := i.dead b hb hd; omega
  · rw [eB] at hb
    have hfree := i.free b hb hf
    have hdd : s.dead b = false := by
      cases hd : s.dead b with
      | false => rfl
      | true => have := i.dead b hb hd; omega
    refine ⟨b, hb, rfl, by simp [upd], hP, fun q _ hq => hfree q hq, hdd, rfl, rfl, ⟨i.cuts, i.off, fun j hj => ?_, .inr ⟨b, hb, rfl, by simp [upd], hP, fun q _ hq => hfree q hq⟩, fun j hj hj0 => ?_, fun j hj hjd => ?_, fun j hj hj1 => ?_⟩⟩
    · show 0 ≤ upd v.lf.l b 1 j ∧ upd v.lf.l b 1 j ≤ 3
      unfold upd
      split
      · omega
      · exact i.kind j hj
    · have hj0' : upd v.lf.l b 1 j = 0 := hj0
      unfold upd at hj0'
      split at hj0'
      · omega
      · exact i.free j hj hj0'
    · have := i.dead j hj hjd
      show upd v.lf.l b 1 j = 3
      unfold upd
      split
      · rename_i he; subst he; omega
      · exact this
    · have hj1' : upd v.lf.l b 1 j = 1 := hj1
      unfold upd at hj1'
      split at hj1'
      · rename_i he; subst he; rfl
      · have := i.one j hj hj1'
        omega
  · cases h
/-- A page is written: the next one is the one behind it. -/
theorem WInv.took {a : NdA} {e : LfA} {s : Nd} {v : Wr} {b : Nat} (i : WInv a s v) (eP : e.P = a.P) (hb : b < a.B) (ho : v.lf.op = (b : Int)) (hl : v.lf.l b = 1) (hn : v.lf.nx < a.P) (T : Bytes) : WInv a (s.acted.lay a b v.lf.nx T) { v with lf := v.lf.took e b } := by
  have hq : ∀ q, v.lf.nx ≤ q → q < a.P → s.pages b q = [] := by
    rcases i.op with hh | ⟨c, hc, hoc, _, _, hq⟩
    · omega
    · have : c = b := by omega
      subst this; exact hq
  have hpg : ∀ j q, ¬ (j = b ∧ q = v.lf.nx) → (s.acted.lay a b v.lf.nx T).pages j q = s.pages j q := fun j q h => by
    unfold Nd.lay upd2
    simp only
    rw [if_neg h]; rfl
  have hoff : (s.acted.lay a b v.lf.nx T).off = false := by
    show (s.off || s.cutNow.isSome) = false
    rw [cutNow_nil i.cuts, i.off]; rfl
  unfold Lf.took
  by_cases hp : v.lf.nx + 1 = e.P
  · rw [if_pos hp]
    refine ⟨i.cuts, hoff, fun j hj => ?_, .inl (by show (-1 : Int) < 0; decide), fun j hj hj0 q hqP => ?_, fun j hj hjd => ?_, fun j hj hj1 => ?_⟩
    · show 0 ≤ upd v.lf.l b 2 j ∧ upd v.lf.l b 2 j ≤ 3
      unfold upd
      split
      · omega
      · exact i.kind j hj
    · have hj0' : upd v.lf.l b 2 j = 0 := hj0
      unfold upd at hj0'
      split at hj0'
      · omega
      · rename_i hne
        rw [hpg j q (fun h => hne h.1)]
        exact i.free j hj hj0' q hqP
    · have := i.dead j hj hjd
      show upd v.lf.l b 2 j = 3
      unfold upd
      split
      · rename_i he; subst he; omega
      · exact this
    · have hj1' : upd v.lf.l b 2 j = 1 := hj1
      unfold upd at hj1'
      split at hj1'
      · omega
      · rename_i hne
        have := i.one j hj hj1'
        omega
  · rw [if_neg hp]
    refine ⟨i.cuts, hoff, i.kind, .inr ⟨b, hb, ho, hl, by show v.lf.nx + 1 < a.P; omega, fun q hq1 hqP => ?_⟩, fun j hj hj0 q hqP => ?_, fun j hj hjd => i.dead j hj hjd, i.one⟩
    · have hq1' : v.lf.nx + 1 ≤ q := hq1
      rw [hpg b q (fun h => by omega)]
      exact hq q (by omega) hqP
    · have hj0' : v.lf.l j = 0 := hj0
      rw [hpg j q (fun h => by rw [h.1] at hj0'; omega)]
      exact i.free j hj hj0' q hqP
/-- A block that failed is bad. -/
theorem WInv.spoilt {a : NdA} {s : Nd} {v : Wr} {b : Nat} (hc : s.cuts = []) (ho : s.off = false) (hb : b < a.B) (hl3 : v.lf.l b ≠ 3) (kind : ∀ i, i < a.B → 0 ≤ v.lf.l i ∧ v.lf.l i ≤ 3)
    (op : v.lf.op < 0 ∨ v.lf.op = (b : Int) ∨ ∃ c : Nat, c < a.B ∧ v.lf.op = (c : Int) ∧ v.lf.l c = 1 ∧ v.lf.nx < a.P ∧ ∀ q, v.lf.nx ≤ q → q < a.P → s.pages c q = [])
    (free : ∀ i, i < a.B → v.lf.l i = 0 → i ≠ b → ∀ q, q < a.P → s.pages i q = []) (dead : ∀ i, i < a.B → s.dead i = true → i ≠ b → v.lf.l i = 3) (one : ∀ i, i < a.B → v.lf.l i = 1 → i ≠ b → v.lf.op = (i : Int)) : WInv a s (v.spoilt b) := by
  have hlf : (v.spoilt b).lf = ⟨upd v.lf.l b 3, if v.lf.op = (b : Int) then -1 else v.lf.op, v.lf.nx⟩ := by
    show v.lf.set b 3 = _
    unfold Lf.set
    rw [if_neg hl3]
  refine ⟨hc, ho, fun j hj => ?_, ?_, fun j hj hj0 q hqP => ?_, fun j hj hjd => ?_, fun j hj hj1 => ?_⟩ <;> rw [hlf] at *
  · show 0 ≤ upd v.lf.l b 3 j ∧ upd v.lf.l b 3 j ≤ 3
    unfold upd
    split
    · omega
    · exact kind j hj
  · by_cases he : v.lf.op = (b : Int)
    · left; show (if v.lf.op = (b : Int) then (-1 : Int) else v.lf.op) < 0; rw [if_pos he]; decide
    · rcases op with h | h | ⟨c, hc', hoc, hlc, hn, hq⟩
      · left; show (if v.lf.op = (b : Int) then (-1 : Int) else v.lf.op) < 0; rw [if_neg he]; exact h
      · exact absurd h he
      · right
        have hne : c ≠ b := fun h => he (by rw [hoc, h])
        exact ⟨c, hc', by show (if v.lf.op = (b : Int) then (-1 : Int) else v.lf.op) = _; rw [if_neg he]; exact hoc, by show upd v.lf.l b 3 c = 1; unfold upd; rw [if_neg hne]; exact hlc, hn, hq⟩
  · have hj0' : upd v.lf.l b 3 j = 0 := hj0
    unfold upd at hj0'
    split at hj0'
    · omega
    · rename_i hne
      exact free j hj hj0' hne q hqP
  · show upd v.lf.l b 3 j = 3
    unfold upd
    split
    · rfl
    · rename_i hne
      exact dead j hj hjd hne
  · have hj1' : upd v.lf.l b 3 j = 1 := hj1
    unfold upd at hj1'
    split at hj1'
    · omega
    · rename_i hne
      have := one j hj hj1' hne
      show (if v.lf.op = (b : Int) then (-1 : Int) else v.lf.op) = _
      rw [if_neg (by omega)]; exact this
/-- Marking, when the power stays. -/
theorem mark_calm {a : NdA} {s : Nd} {b : Nat} (hc : s.cuts = []) (ho : s.off = false) (hb : b < a.B) (hP : 0 < a.P) : s.markT a (b : Int) = (0, { s with did := s.did + 1, mark := upd s.mark b true }) := by
  have h0 : s.inE a (b : Int) 0 = 0 := inE_yes (q := 0) ho hb hP
  unfold Nd.markT
  rw [if_neg (by rw [h0]; simp), Int.toNat_natCast]
  unfold Nd.domark
  rw [cutNow_nil hc, acted_plain (cutNow_nil hc)]
/-- Erasing, when the power stays. -/
theorem erase_calm {a : NdA} {s : Nd} {v : Wr} {b : Nat} (hc : s.cuts = []) (ho : s.off = false) (hb : b < a.B) (hP : 0 < a.P) (hd : s.dead b = false) :
    eraseW a s v b = if s.failNow = true then (0, { s with did := s.did + 1 + 1, worn := upd s.worn b (s.worn b + 1), dead := upd s.dead b true, mark := upd s.mark b true }, v.spoilt b)
      else (0, ({ s with did := s.did + 1, worn := upd s.worn b (s.worn b + 1) } : Nd).clear b a.P, { v with worn := upd v.worn b (v.worn b + 1), lf := v.lf.set b 0 }) := by
  have h0 : s.inE a (b : Int) 0 = 0 := inE_yes (q := 0) ho hb hP
  have he : s.eraseT a (b : Int) = s.erase a b := by
    unfold Nd.eraseT
    rw [if_neg (by rw [h0]; simp), Int.toNat_natCast]
  unfold eraseW
  rw [he]
  unfold Nd.erase
  rw [cutNow_nil hc, acted_plain (cutNow_nil hc)]
  simp only [hd, Bool.false_eq_true, false_or]
  by_cases hf : s.failNow = true
  · rw [if_pos hf, if_pos hf]
    have hm := mark_calm (a := a) (s := { s with did := s.did + 1, worn := upd s.worn b (s.worn b + 1), dead := upd s.dead b true }) (b := b) hc ho hb hP
    rw [if_neg (show ¬ ((54 : Int) = 0) by decide), if_pos rfl, hm]
  · rw [if_neg hf, if_neg hf]
    rw [if_pos rfl]
theorem WInv.erased {a : NdA} {s : Nd} {v : Wr} {b : Nat} (i : WInv a s v) (hb : b < a.B) (hl3 : v.lf.l b ≠ 3) (w : Nat → Int) (n : Int) (ws : Nat → Int) : WInv a (({ s with did := n, worn := ws } : Nd).clear b a.P) { v with worn := w, lf := v.lf.set b 0 } := by
  have hlf : v.lf.set b 0 = ⟨upd v.lf.l b 0, if v.lf.op = (b : Int) then -1 else v.lf.op, v.lf.nx⟩ := by
    unfold Lf.set
    rw [if_neg hl3]
  rw [hlf]
  have hpg : ∀ j q, (s.pages j q = [] ∨ (j = b ∧ q < a.P)) → (({ s with did := n, worn := ws } : Nd).clear b a.P).pages j q = [] := fun j q h => by
    unfold Nd.clear
    simp only
    split
    · rfl
    · rename_i hne
      rcases h with h | h
      · exact h
      · exact absurd h hne
  refine ⟨i.cuts, i.off, fun j hj => ?_, ?_, fun j hj hj0 q hqP => ?_, fun j hj hjd => ?_, fun j hj hj1 => ?_⟩
  · show 0 ≤ upd v.lf.l b 0 j ∧ upd v.lf.l b 0 j ≤ 3
    unfold upd
    split
    · omega
    · exact i.kind j hj
  · by_cases he : v.lf.op = (b : Int)
    · left; show (if v.lf.op = (b : Int) then (-1 : Int) else v.lf.op) < 0; rw [if_pos he]; decide
    · rcases i.op with h | ⟨c, hc', hoc, hlc, hn, hq⟩
      · left; show (if v.lf.op = (b : Int) then (-1 : Int) else v.lf.op) < 0; rw [if_neg he]; exact h
      · right
        have hne : c ≠ b := fun h => he (by rw [hoc, h])
        exact ⟨c, hc', by show (if v.lf.op = (b : Int) then (-1 : Int) else v.lf.op) = _; rw [if_neg he]; exact hoc, by show upd v.lf.l b 0 c = 1; unfold upd; rw [if_neg hne]; exact hlc, hn, fun q h1 h2 => hpg c q (.inl (hq q h1 h2))⟩
  · have hj0' : upd v.lf.l b 0 j = 0 := hj0
    unfold upd at hj0'
    split at hj0'
    · rename_i he; subst he; exact hpg _ q (.inr ⟨rfl, hqP⟩)
    · exact hpg j q (.inl (i.free j hj hj0' q hqP))
  · have := i.dead j hj hjd
    show upd v.lf.l b 0 j = 3
    unfold upd
    split
    · rename_i he; subst he; exact absurd this hl3
    · exact this
  · have hj1' : upd v.lf.l b 0 j = 1 := hj1
    unfold upd at hj1'
    split at hj1'
    · omega
    · rename_i hne
      have := i.one j hj hj1'
      show (if v.lf.op = (b : Int) then (-1 : Int) else v.lf.op) = _
      rw [if_neg (by omega)]; exact this
theorem WInv.full {a : NdA} {s : Nd} {v : Wr} {b : Nat} (i : WInv a s v) (hb : b < a.B) (ho : v.lf.op = (b : Int)) (hl : v.lf.l b = 1) : WInv a s { v with lf := v.lf.set b 2 } := by
  have hlf : v.lf.set b 2 = ⟨upd v.lf.l b 2, -1, v.lf.nx⟩ := by
    unfold Lf.set
    rw [if_neg (by omega), if_pos ho]
  rw [hlf]
  refine ⟨i.cuts, i.off, fun j hj => ?_, .inl (by show (-1 : Int) < 0; decide), fun j hj hj0 q hqP => ?_, fun j hj hjd => ?_, fun j hj hj1 => ?_⟩
  · show 0 ≤ upd v.lf.l b 2 j ∧ upd v.lf.l b 2 j ≤ 3
    unfold upd
    split
    · omega
    · exact i.kind j hj
  · have hj0' : upd v.lf.l b 2 j = 0 := hj0
    unfold upd at hj0'
    split at hj0'
    · omega
    · exact i.free j hj hj0' q hqP
  · have := i.dead j hj hjd
    show upd v.lf.l b 2 j = 3
    unfold upd
    split
    · rename_i he; subst he; omega
    · exact this
  · have hj1' : upd v.lf.l b 2 j = 1 := hj1
    unfold upd at hj1'
    split at hj1'
    · omega
    · have := i.one j hj hj1'
      omega
end Ev
