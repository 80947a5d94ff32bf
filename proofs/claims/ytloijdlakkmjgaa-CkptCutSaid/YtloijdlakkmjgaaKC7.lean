/- SLaw13i SLaw13j SLaw13k SLaw13m SLaw13F SLaw14s -/
import Derived.Test.YtloijdlakkmjgaaKC6
import Derived.Test.YtloijdlakkmjgaaKC2
/- Chapter 13: what holds of a chip and its writer, when the power stays. -/
namespace Ev
open Go (IntKind)

/-- What holds as long as the power stays. -/
structure WInv (a : NdA) (s : Nd) (v : Wr) : Prop where
  cuts : s.cuts = []
  off : s.off = false
  kind : ∀ i, i < a.B → 0 ≤ v.lf.l i ∧ v.lf.l i ≤ 3
  op : v.lf.op < 0 ∨ ∃ b : Nat, b < a.B ∧ v.lf.op = (b : Int) ∧ v.lf.l b = 1 ∧ v.lf.nx < a.P ∧ ∀ q, v.lf.nx ≤ q → q < a.P → s.pages b q = []
  free : ∀ i, i < a.B → v.lf.l i = 0 → ∀ q, q < a.P → s.pages i q = []
  dead : ∀ i, i < a.B → s.dead i = true → v.lf.l i = 3
  one : ∀ i, i < a.B → v.lf.l i = 1 → v.lf.op = (i : Int)
theorem inE_yes {a : NdA} {s : Nd} {i q : Nat} (ho : s.off = false) (hi : i < a.B) (hq : q < a.P) : s.inE a (i : Int) (q : Int) = 0 := by
  unfold Nd.inE
  rw [if_neg (by simp [ho]), if_neg (by omega)]
theorem try_calm {a : NdA} {s : Nd} {t : Tg} {x : Bytes} {v : Wr} {b : Nat} (hc : s.cuts = []) (ho : s.off = false) (hb : b < a.B) (hn : v.lf.nx < a.P) (hp : ∀ q, v.lf.nx ≤ q → q < a.P → s.pages b q = []) (hd : s.dead b = false) (hx : x.length ≤ a.S) :
    tryW a s t x v b = if s.failNow = true then (53, ({ s.acted with dead := upd s.dead b true } : Nd).lay a b v.lf.nx (List.replicate (a.S + 32) 0)) else (0, s.acted.lay a b v.lf.nx (frameB a (t.worn (v.worn b)) x)) := by
  have h0 : s.inE a (b : Int) (v.lf.nx : Int) = 0 := inE_yes ho hb hn
  have hu : s.used a b v.lf.nx = false := used_false hp
  have hdl := dataOf_length hx
  have hsl := spareOf_length (t.worn (v.worn b)) x a.S
  have hfl : (frameB a (t.worn (v.worn b)) x).length = a.S + 32 := frameB_length hx
  unfold tryW Nd.progT
  rw [if_neg (by rw [h0]; simp), if_neg (by rw [hdl, hsl]; omega), Int.toNat_natCast, Int.toNat_natCast, hu]
  simp only [Bool.false_eq_true, if_false]
  unfold Nd.program
  rw [cutNow_nil hc]
  simp only [hd, Bool.false_eq_true, false_or]
  have e : dataOf x a.S ++ spareOf (t.worn (v.worn b)) x a.S = frameB a (t.worn (v.worn b)) x := rfl
  rw [e, hfl]
/-- The block that is written after opening. -/
theorem WInv.opened {a : NdA} {e : LfA} {s : Nd} {v v1 : Wr} (i : WInv a s v) (eB : e.B = a.B) (hP : 0 < a.P) (o : Opened e v true v1) : ∃ b, b < a.B ∧ v1.lf.op = (b : Int) ∧ v1.lf.l b = 1 ∧ v1.lf.nx < a.P ∧ (∀ q, v1.lf.nx ≤ q → q < a.P → s.pages b q = []) ∧ s.dead b = false ∧ v1.worn = v.worn ∧ v1.bad = v.bad ∧ WInv a s v1 := by
  rcases o with ⟨h1, _, rfl⟩ | ⟨h1, _, b, hb, hf, _, rfl⟩ | ⟨_, h, _⟩
  · rcases i.op with hh | ⟨b, hb, ho, hl, hn, hq⟩
    · omega
    · refine ⟨b, hb, ho, hl, hn, hq, ?_, rfl, rfl, i⟩
      cases hd : s.dead b with
      | false => rfl
      | true => have := i.dead b hb hd; omega
  · rw [eB] at hb
    have hfree := i.free b hb hf
    have hdd : s.dead b = false := by
      cases hd : s.dead b with
      | false => rfl
      | true => have := i.dead b hb hd; omega
    refine ⟨b, hb, rfl, by simp [upd], hP, fun q _ hq => hfree q hq, hdd, rfl, rfl, ⟨i.cuts, i.off, fun j hj => ?_, .inr ⟨b, hb, rfl, by simp [upd], hP, fun q _ hq => hfree q hq⟩, fun j hj hj0 => ?_, fun j hj hjd => ?_, fun j hj hj1 => ?_⟩⟩
    · show 0 ≤ upd v.lf.l b 1 j ∧ upd v.lf.l b 1 j ≤ 3
      unfold upd
      split
      · omega
      · exact i.kind j hj
    · have hj0' : upd v.lf.l b 1 j = 0 := hj0
      unfold upd at hj0'
      split at hj0'
      · omega
      · exact i.free j hj hj0'
    · have := i.dead j hj hjd
      show upd v.lf.l b 1 j = 3
      unfold upd
      split
      · rename_i he; subst he; omega
      · exact this
    · have hj1' : upd v.lf.l b 1 j = 1 := hj1
      unfold upd at hj1'
      split at hj1'
      · rename_i he; subst he; rfl
      · have := i.one j hj hj1'
        omega
  · cases h
/-- A page is written: the next one is the one behind it. -/
theorem WInv.took {a : NdA} {e : LfA} {s : Nd} {v : Wr} {b : Nat} (i : WInv a s v) (eP : e.P = a.P) (hb : b < a.B) (ho : v.lf.op = (b : Int)) (hl : v.lf.l b = 1) (hn : v.lf.nx < a.P) (T : Bytes) : WInv a (s.acted.lay a b v.lf.nx T) { v with lf := v.lf.took e b } := by
  have hq : ∀ q, v.lf.nx ≤ q → q < a.P → s.pages b q = [] := by
    rcases i.op with hh | ⟨c, hc, hoc, _, _, hq⟩
    · omega
    · have : c = b := by omega
      subst this; exact hq
  have hpg : ∀ j q, ¬ (j = b ∧ q = v.lf.nx) → (s.acted.lay a b v.lf.nx T).pages j q = s.pages j q := fun j q h => by
    unfold Nd.lay upd2
    simp only
    rw [if_neg h]; rfl
  have hoff : (s.acted.lay a b v.lf.nx T).off = false := by
    show (s.off || s.cutNow.isSome) = false
    rw [cutNow_nil i.cuts, i.off]; rfl
  unfold Lf.took
  by_cases hp : v.lf.nx + 1 = e.P
  · rw [if_pos hp]
    refine ⟨i.cuts, hoff, fun j hj => ?_, .inl (by show (-1 : Int) < 0; decide), fun j hj hj0 q hqP => ?_, fun j hj hjd => ?_, fun j hj hj1 => ?_⟩
    · show 0 ≤ upd v.lf.l b 2 j ∧ upd v.lf.l b 2 j ≤ 3
      unfold upd
      split
      · omega
      · exact i.kind j hj
    · have hj0' : upd v.lf.l b 2 j = 0 := hj0
      unfold upd at hj0'
      split at hj0'
      · omega
      · rename_i hne
        rw [hpg j q (fun h => hne h.1)]
        exact i.free j hj hj0' q hqP
    · have := i.dead j hj hjd
      show upd v.lf.l b 2 j = 3
      unfold upd
      split
      · rename_i he; subst he; omega
      · exact this
    · have hj1' : upd v.lf.l b 2 j = 1 := hj1
      unfold upd at hj1'
      split at hj1'
      · omega
      · rename_i hne
        have := i.one j hj hj1'
        omega
  · rw [if_neg hp]
    refine ⟨i.cuts, hoff, i.kind, .inr ⟨b, hb, ho, hl, by show v.lf.nx + 1 < a.P; omega, fun q hq1 hqP => ?_⟩, fun j hj hj0 q hqP => ?_, fun j hj hjd => i.dead j hj hjd, i.one⟩
    · have hq1' : v.lf.nx + 1 ≤ q := hq1
      rw [hpg b q (fun h => by omega)]
      exact hq q (by omega) hqP
    · have hj0' : v.lf.l j = 0 := hj0
      rw [hpg j q (fun h => by rw [h.1] at hj0'; omega)]
      exact i.free j hj hj0' q hqP
/-- A block that failed is bad. -/
theorem WInv.spoilt {a : NdA} {s : Nd} {v : Wr} {b : Nat} (hc : s.cuts = []) (ho : s.off = false) (hb : b < a.B) (hl3 : v.lf.l b ≠ 3) (kind : ∀ i, i < a.B → 0 ≤ v.lf.l i ∧ v.lf.l i ≤ 3)
    (op : v.lf.op < 0 ∨ v.lf.op = (b : Int) ∨ ∃ c : Nat, c < a.B ∧ v.lf.op = (c : Int) ∧ v.lf.l c = 1 ∧ v.lf.nx < a.P ∧ ∀ q, v.lf.nx ≤ q → q < a.P → s.pages c q = [])
    (free : ∀ i, i < a.B → v.lf.l i = 0 → i ≠ b → ∀ q, q < a.P → s.pages i q = []) (dead : ∀ i, i < a.B → s.dead i = true → i ≠ b → v.lf.l i = 3) (one : ∀ i, i < a.B → v.lf.l i = 1 → i ≠ b → v.lf.op = (i : Int)) : WInv a s (v.spoilt b) := by
  have hlf : (v.spoilt b).lf = ⟨upd v.lf.l b 3, if v.lf.op = (b : Int) then -1 else v.lf.op, v.lf.nx⟩ := by
    show v.lf.set b 3 = _
    unfold Lf.set
    rw [if_neg hl3]
  refine ⟨hc, ho, fun j hj => ?_, ?_, fun j hj hj0 q hqP => ?_, fun j hj hjd => ?_, fun j hj hj1 => ?_⟩ <;> rw [hlf] at *
  · show 0 ≤ upd v.lf.l b 3 j ∧ upd v.lf.l b 3 j ≤ 3
    unfold upd
    split
    · omega
    · exact kind j hj
  · by_cases he : v.lf.op = (b : Int)
    · left; show (if v.lf.op = (b : Int) then (-1 : Int) else v.lf.op) < 0; rw [if_pos he]; decide
    · rcases op with h | h | ⟨c, hc', hoc, hlc, hn, hq⟩
      · left; show (if v.lf.op = (b : Int) then (-1 : Int) else v.lf.op) < 0; rw [if_neg he]; exact h
      · exact absurd h he
      · right
        have hne : c ≠ b := fun h => he (by rw [hoc, h])
        exact ⟨c, hc', by show (if v.lf.op = (b : Int) then (-1 : Int) else v.lf.op) = _; rw [if_neg he]; exact hoc, by show upd v.lf.l b 3 c = 1; unfold upd; rw [if_neg hne]; exact hlc, hn, hq⟩
  · have hj0' : upd v.lf.l b 3 j = 0 := hj0
    unfold upd at hj0'
    split at hj0'
    · omega
    · rename_i hne
      exact free j hj hj0' hne q hqP
  · show upd v.lf.l b 3 j = 3
    unfold upd
    split
    · rfl
    · rename_i hne
      exact dead j hj hjd hne
  · have hj1' : upd v.lf.l b 3 j = 1 := hj1
    unfold upd at hj1'
    split at hj1'
    · omega
    · rename_i hne
      have := one j hj hj1' hne
      show (if v.lf.op = (b : Int) then (-1 : Int) else v.lf.op) = _
      rw [if_neg (by omega)]; exact this
/-- Marking, when the power stays. -/
theorem mark_calm {a : NdA} {s : Nd} {b : Nat} (hc : s.cuts = []) (ho : s.off = false) (hb : b < a.B) (hP : 0 < a.P) : s.markT a (b : Int) = (0, { s with did := s.did + 1, mark := upd s.mark b true }) := by
  have h0 : s.inE a (b : Int) 0 = 0 := inE_yes (q := 0) ho hb hP
  unfold Nd.markT
  rw [if_neg (by rw [h0]; simp), Int.toNat_natCast]
  unfold Nd.domark
  rw [cutNow_nil hc, acted_plain (cutNow_nil hc)]
/-- Erasing, when the power stays. -/
theorem erase_calm {a : NdA} {s : Nd} {v : Wr} {b : Nat} (hc : s.cuts = []) (ho : s.off = false) (hb : b < a.B) (hP : 0 < a.P) (hd : s.dead b = false) :
    eraseW a s v b = if s.failNow = true then (0, { s with did := s.did + 1 + 1, worn := upd s.worn b (s.worn b + 1), dead := upd s.dead b true, mark := upd s.mark b true }, v.spoilt b)
      else (0, ({ s with did := s.did + 1, worn := upd s.worn b (s.worn b + 1) } : Nd).clear b a.P, { v with worn := upd v.worn b (v.worn b + 1), lf := v.lf.set b 0 }) := by
  have h0 : s.inE a (b : Int) 0 = 0 := inE_yes (q := 0) ho hb hP
  have he : s.eraseT a (b : Int) = s.erase a b := by
    unfold Nd.eraseT
    rw [if_neg (by rw [h0]; simp), Int.toNat_natCast]
  unfold eraseW
  rw [he]
  unfold Nd.erase
  rw [cutNow_nil hc, acted_plain (cutNow_nil hc)]
  simp only [hd, Bool.false_eq_true, false_or]
  by_cases hf : s.failNow = true
  · rw [if_pos hf, if_pos hf]
    have hm := mark_calm (a := a) (s := { s with did := s.did + 1, worn := upd s.worn b (s.worn b + 1), dead := upd s.dead b true }) (b := b) hc ho hb hP
    rw [if_neg (show ¬ ((54 : Int) = 0) by decide), if_pos rfl, hm]
  · rw [if_neg hf, if_neg hf]
    rw [if_pos rfl]
theorem WInv.erased {a : NdA} {s : Nd} {v : Wr} {b : Nat} (i : WInv a s v) (hb : b < a.B) (hl3 : v.lf.l b ≠ 3) (w : Nat → Int) (n : Int) (ws : Nat → Int) : WInv a (({ s with did := n, worn := ws } : Nd).clear b a.P) { v with worn := w, lf := v.lf.set b 0 } := by
  have hlf : v.lf.set b 0 = ⟨upd v.lf.l b 0, if v.lf.op = (b : Int) then -1 else v.lf.op, v.lf.nx⟩ := by
    unfold Lf.set
    rw [if_neg hl3]
  rw [hlf]
  have hpg : ∀ j q, (s.pages j q = [] ∨ (j = b ∧ q < a.P)) → (({ s with did := n, worn := ws } : Nd).clear b a.P).pages j q = [] := fun j q h => by
    unfold Nd.clear
    simp only
    split
    · rfl
    · rename_i hne
      rcases h with h | h
      · exact h
      · exact absurd h hne
  refine ⟨i.cuts, i.off, fun j hj => ?_, ?_, fun j hj hj0 q hqP => ?_, fun j hj hjd => ?_, fun j hj hj1 => ?_⟩
  · show 0 ≤ upd v.lf.l b 0 j ∧ upd v.lf.l b 0 j ≤ 3
    unfold upd
    split
    · omega
    · exact i.kind j hj
  · by_cases he : v.lf.op = (b : Int)
    · left; show (if v.lf.op = (b : Int) then (-1 : Int) else v.lf.op) < 0; rw [if_pos he]; decide
    · rcases i.op with h | ⟨c, hc', hoc, hlc, hn, hq⟩
      · left; show (if v.lf.op = (b : Int) then (-1 : Int) else v.lf.op) < 0; rw [if_neg he]; exact h
      · right
        have hne : c ≠ b := fun h => he (by rw [hoc, h])
        exact ⟨c, hc', by show (if v.lf.op = (b : Int) then (-1 : Int) else v.lf.op) = _; rw [if_neg he]; exact hoc, by show upd v.lf.l b 0 c = 1; unfold upd; rw [if_neg hne]; exact hlc, hn, fun q h1 h2 => hpg c q (.inl (hq q h1 h2))⟩
  · have hj0' : upd v.lf.l b 0 j = 0 := hj0
    unfold upd at hj0'
    split at hj0'
    · rename_i he; subst he; exact hpg _ q (.inr ⟨rfl, hqP⟩)
    · exact hpg j q (.inl (i.free j hj hj0' q hqP))
  · have := i.dead j hj hjd
    show upd v.lf.l b 0 j = 3
    unfold upd
    split
    · rename_i he; subst he; exact absurd this hl3
    · exact this
  · have hj1' : upd v.lf.l b 0 j = 1 := hj1
    unfold upd at hj1'
    split at hj1'
    · omega
    · rename_i hne
      have := i.one j hj hj1'
      show (if v.lf.op = (b : Int) then (-1 : Int) else v.lf.op) = _
      rw [if_neg (by omega)]; exact this
theorem WInv.full {a : NdA} {s : Nd} {v : Wr} {b : Nat} (i : WInv a s v) (hb : b < a.B) (ho : v.lf.op = (b : Int)) (hl : v.lf.l b = 1) : WInv a s { v with lf := v.lf.set b 2 } := by
  have hlf : v.lf.set b 2 = ⟨upd v.lf.l b 2, -1, v.lf.nx⟩ := by
    unfold Lf.set
    rw [if_neg (by omega), if_pos ho]
  rw [hlf]
  refine ⟨i.cuts, i.off, fun j hj => ?_, .inl (by show (-1 : Int) < 0; decide), fun j hj hj0 q hqP => ?_, fun j hj hjd => ?_, fun j hj hj1 => ?_⟩
  · show 0 ≤ upd v.lf.l b 2 j ∧ upd v.lf.l b 2 j ≤ 3
    unfold upd
    split
    · omega
    · exact i.kind j hj
  · have hj0' : upd v.lf.l b 2 j = 0 := hj0
    unfold upd at hj0'
    split at hj0'
    · omega
    · exact i.free j hj hj0' q hqP
  · have := i.dead j hj hjd
    show upd v.lf.l b 2 j = 3
    unfold upd
    split
    · rename_i he; subst he; omega
    · exact this
  · have hj1' : upd v.lf.l b 2 j = 1 := hj1
    unfold upd at hj1'
    split at hj1'
    · omega
    · have := i.one j hj hj1'
      omega
end Ev

/- Chapter 13: a page is written, when the power stays. -/
namespace Ev
open Go (IntKind)

/-- A block failed, and was marked. -/
def Nd.failed (a : NdA) (s : Nd) (b p : Nat) : Nd := { (({ s.acted with dead := upd s.dead b true } : Nd).lay a b p (List.replicate (a.S + 32) 0)) with did := s.did + 1 + 1, mark := upd s.mark b true }
/-- The block that is written. -/
structure Hit (a : NdA) (e : LfA) (s : Nd) (v v1 : Wr) (b : Nat) : Prop where
  op : Opened e v true v1
  hb : b < a.B
  ho : v1.lf.op = (b : Int)
  hl : v1.lf.l b = 1
  hn : v1.lf.nx < a.P
  hq : ∀ q, v1.lf.nx ≤ q → q < a.P → s.pages b q = []
  hd : s.dead b = false
  worn : v1.worn = v.worn
  bad : v1.bad = v.bad
inductive AppR (a : NdA) (e : LfA) (t : Tg) (x : Bytes) : Nd → Wr → Nd → Wr → Int → Int → Prop
  | full {s : Nd} {v : Wr} : v.lf.op < 0 → (∀ i, i < a.B → v.lf.l i ≠ 0) → AppR a e t x s v s v 0 130
  | good {s : Nd} {v v1 : Wr} {b : Nat} : Hit a e s v v1 b → s.failNow = false → AppR a e t x s v (s.acted.lay a b v1.lf.nx (frameB a (t.worn (v1.worn b)) x)) { v1 with lf := v1.lf.took e b } ((b * a.P + v1.lf.nx : Nat) : Int) 0
  | fail {s s' : Nd} {v v1 v' : Wr} {b : Nat} {p er : Int} : Hit a e s v v1 b → s.failNow = true → AppR a e t x (s.failed a b v1.lf.nx) (({ v1 with lf := v1.lf.took e b } : Wr).spoilt b) s' v' p er → AppR a e t x s v s' v' p er

def alive (l : Nat → Int) : Nat → Nat
  | 0 => 0
  | n + 1 => alive l n + if l n = 3 then 0 else 1
theorem alive_le (l : Nat → Int) (n : Nat) : alive l n ≤ n := by
  induction n with
  | zero => exact Nat.le_refl _
  | succ n ih => unfold alive; split <;> omega
theorem alive_mono {l l' : Nat → Int} : ∀ {n : Nat}, (∀ i, i < n → l i = 3 → l' i = 3) → alive l' n ≤ alive l n
  | 0, _ => Nat.le_refl _
  | n + 1, h => by
    have := alive_mono (n := n) fun i hi => h i (by omega)
    unfold alive
    by_cases h3 : l n = 3
    · rw [if_pos h3, if_pos (h n (by omega) h3)]; omega
    · rw [if_neg h3]; split <;> omega
theorem alive_lt {l l' : Nat → Int} : ∀ {n : Nat}, (∀ i, i < n → l i = 3 → l' i = 3) → ∀ {b : Nat}, b < n → l b ≠ 3 → l' b = 3 → alive l' n < alive l n
  | 0, _, _, hb, _, _ => absurd hb (by omega)
  | n + 1, h, b, hb, h1, h2 => by
    have hm := alive_mono (n := n) fun i hi => h i (by omega)
    unfold alive
    by_cases hbn : b = n
    · subst hbn; rw [if_neg h1, if_pos h2]; omega
    · have := alive_lt (n := n) (fun i hi => h i (by omega)) (b := b) (by omega) h1 h2
      by_cases h3 : l n = 3
      · rw [if_pos h3, if_pos (h n (by omega) h3)]; omega
      · rw [if_neg h3]; split <;> omega

theorem took_l {e : LfA} {f : Lf} {b : Nat} (i : Nat) : (f.took e b).l i = if f.nx + 1 = e.P then upd f.l b 2 i else f.l i := by
  unfold Lf.took
  split <;> rfl
theorem took_op {e : LfA} {f : Lf} {b : Nat} : (f.took e b).op = if f.nx + 1 = e.P then -1 else f.op := by
  unfold Lf.took
  split <;> rfl
section
variable {N : Nat → Prop} {H : Heap} {z : WrA} {a : NdA} {e : LfA} {s : Nd} {v : Wr} {sb : Sl} {D : Int}

/-- A block that failed in writing. -/
theorem WInv.failed {v1 : Wr} {b : Nat} (i : WInv a s v1) (hb : b < a.B) (ho : v1.lf.op = (b : Int)) (hl : v1.lf.l b = 1) : WInv a (s.failed a b v1.lf.nx) (({ v1 with lf := v1.lf.took e b } : Wr).spoilt b) := by
  have hoff : (s.failed a b v1.lf.nx).off = false := by
    show (s.off || s.cutNow.isSome) = false
    rw [cutNow_nil i.cuts, i.off]; rfl
  have hne : ∀ {j : Nat}, j ≠ b → (v1.lf.took e b).l j = v1.lf.l j := fun {j} h => by
    rw [took_l]
    split
    · unfold upd; rw [if_neg h]
    · rfl
  have hbl : (v1.lf.took e b).l b = 1 ∨ (v1.lf.took e b).l b = 2 := by
    rw [took_l]
    split
    · right; simp [upd]
    · exact .inl hl
  refine WInv.spoilt (v := { v1 with lf := v1.lf.took e b }) i.cuts hoff hb (by show (v1.lf.took e b).l b ≠ 3; omega) (fun j hj => ?_) ?_ (fun j hj hj0 hjb q hq => ?_) (fun j hj hjd hjb => ?_) (fun j hj hj1 hjb => ?_)
  · show 0 ≤ (v1.lf.took e b).l j ∧ (v1.lf.took e b).l j ≤ 3
    by_cases hjb : j = b
    · subst hjb; omega
    · rw [hne hjb]; exact i.kind j hj
  · show (v1.lf.took e b).op < 0 ∨ (v1.lf.took e b).op = (b : Int) ∨ _
    rw [took_op]
    split
    · left; omega
    · exact .inr (.inl ho)
  · have h0 : v1.lf.l j = 0 := by rw [← hne hjb]; exact hj0
    have : (s.failed a b v1.lf.nx).pages j q = s.pages j q := by
      unfold Nd.failed Nd.lay upd2
      simp only
      rw [if_neg (fun h => hjb h.1)]; rfl
    rw [this]
    exact i.free j hj h0 q hq
  · have : s.dead j = true := by
      have h' : upd s.dead b true j = true := hjd
      unfold upd at h'
      rw [if_neg hjb] at h'
      exact h'
    show (v1.lf.took e b).l j = 3
    rw [hne hjb]
    exact i.dead j hj this
  · have h1 : v1.lf.l j = 1 := by rw [← hne hjb]; exact hj1
    have := i.one j hj h1
    omega

/-- A page is written, when the power stays. -/
theorem app_calm (h : WrAt N H z a e s v sb) (i : WInv a s v) (w : Wf a s D) (hD : D + 100 ≤ 1000000) (hB : a.B ≤ 16) (hbad : v.bad.length ≤ 100000) {t : Tg} {x : Bytes} (hw : ∀ j, j < a.B → 0 ≤ v.worn j ∧ v.worn j ≤ 1000000)
    (ht : ∀ n : Int, 0 ≤ n → n ≤ 1000000 → tagOK (t.worn n) = true) (hseq : 0 ≤ t.2.1 ∧ t.2.1 < 18446744073709551616) (hx : x.length ≤ a.S) :
    ∃ H' p er s' v' sb', write_Writer_Append (some (z.w, 0)) t x H = some ((p, er, ()), H') ∧ WrAt N H' z a e s' v' sb' ∧ Keep (fun k => ¬ N k) H H' ∧ AppR a e t x s v s' v' p er ∧ WInv a s' v' ∧ Wf a s' (D + 40) ∧ v'.worn = v.worn ∧ v'.bad.length ≤ v.bad.length + 16 ∧ s'.fails = s.fails := by
  obtain ⟨eB, eP⟩ := h.eB
  have hsz := w.sz
  have hP : 0 < a.P := by omega
  obtain ⟨H', p, er, s', v', sb', r1, r2, r3, r4⟩ := write_Append_run (J := fun s' v' => WInv a s' v' ∧ (∃ D' : Int, Wf a s' D' ∧ D' + 2 * (alive v'.lf.l a.B : Int) ≤ D + 2 * (alive v.lf.l a.B : Int)) ∧ v'.worn = v.worn ∧ v'.bad.length + alive v'.lf.l a.B ≤ v.bad.length + alive v.lf.l a.B ∧ s'.fails = s.fails ∧ ∀ s2 v2 p er, AppR a e t x s' v' s2 v2 p er → AppR a e t x s v s2 v2 p er)
    (Q := fun s' v' p er => AppR a e t x s v s' v' p er ∧ WInv a s' v' ∧ Wf a s' (D + 40) ∧ v'.worn = v.worn ∧ v'.bad.length ≤ v.bad.length + 16 ∧ s'.fails = s.fails) (fun _ v' => alive v'.lf.l a.B) h (ht 0 (by omega) (by omega)) hseq hx (by omega)
    ⟨i, ⟨D, w, Int.le_refl _⟩, rfl, Nat.le_refl _, rfl, fun _ _ _ _ h => h⟩ (by
      rintro s' v' ⟨i', ⟨D', w', hD'⟩, hw', hb', hf', path⟩
      have hal := alive_le v.lf.l a.B
      have hal' := alive_le v'.lf.l a.B
      refine ⟨⟨D', w', by omega⟩, by omega, fun r v1 o => ⟨fun hr => ?_, fun hr => ?_⟩⟩
      · subst hr
        rcases o with ⟨_, h, _⟩ | ⟨_, h, _⟩ | ⟨h1, _, h2, h3⟩
        · cases h
        · cases h
        · subst h3
          exact ⟨path _ _ _ _ (.full h1 (by rw [← eB]; exact h2)), i', w'.le (by omega) (by omega), hw', by omega, hf'⟩
      · subst hr
        obtain ⟨b, hb, ho, hl, hn, hq, hd, hv1, hv2, i1⟩ := i'.opened eB hP o
        have hwb : v1.worn b = v.worn b := by rw [hv1, hw']
        have hwb' := hw b hb
        have htok : tagOK (t.worn (v1.worn b)) = true := ht _ (by rw [hwb]; omega) (by rw [hwb]; omega)
        have hal1 : alive v1.lf.l a.B ≤ alive v'.lf.l a.B := by
          refine alive_mono fun j hj hj3 => ?_
          rcases o with ⟨_, _, rfl⟩ | ⟨_, _, c, hc, hc0, _, rfl⟩ | ⟨_, hh, _⟩
          · exact hj3
          · show upd v'.lf.l c 1 j = 3
            unfold upd
            split
            · rename_i hjc; subst hjc; omega
            · exact hj3
          · cases hh
        have hit : Hit a e s' v' v1 b := ⟨o, hb, ho, hl, hn, hq, hd, hv1, hv2⟩
        have htry := try_calm (t := t) (x := x) (v := v1) i'.cuts i'.off hb hn hq hd hx
        refine ⟨b, by rw [eB]; exact hb, ho, by omega, htok, ?_, ?_, ?_, ?_⟩
        · intro e0
          have hff : s'.failNow = false := by
            cases hff : s'.failNow with
            | false => rfl
            | true => rw [htry, if_pos hff] at e0; cases e0
          have wp := (w'.progT (by omega) (b : Int) (v1.lf.nx : Int) (dataOf x a.S) (spareOf (t.worn (v1.worn b)) x a.S)).1
          have ht2 : tryW a s' t x v1 b = s'.progT a (b : Int) (v1.lf.nx : Int) (dataOf x a.S) (spareOf (t.worn (v1.worn b)) x a.S) := rfl
          rw [← ht2] at wp
          rw [hff] at htry
          simp only [Bool.false_eq_true, if_false] at htry
          rw [htry] at wp ⊢
          exact ⟨path _ _ _ _ (.good hit hff), i1.took eP hb ho hl hn _, wp.le (by omega) (by omega), by show v1.worn = _; rw [hv1, hw'], by show v1.bad.length ≤ _; rw [hv2]; omega, hf'⟩
        · intro e53
          have hff : s'.failNow = true := by
            cases hff : s'.failNow with
            | true => rfl
            | false => rw [htry, hff] at e53; simp at e53
          have wp := (w'.progT (by omega) (b : Int) (v1.lf.nx : Int) (dataOf x a.S) (spareOf (t.worn (v1.worn b)) x a.S)).1
          have wm := (wp.markT (by omega) (b : Int)).1
          have ht2 : tryW a s' t x v1 b = s'.progT a (b : Int) (v1.lf.nx : Int) (dataOf x a.S) (spareOf (t.worn (v1.worn b)) x a.S) := rfl
          rw [← ht2] at wm
          rw [if_pos hff] at htry
          have hoff : (s'.off || s'.cutNow.isSome) = false := by rw [cutNow_nil i'.cuts, i'.off]; rfl
          have hm := mark_calm (a := a) (s := ({ s'.acted with dead := upd s'.dead b true } : Nd).lay a b v1.lf.nx (List.replicate (a.S + 32) 0)) (b := b) i'.cuts hoff hb hP
          have hmm : (tryW a s' t x v1 b).2.markT a (b : Int) = (0, s'.failed a b v1.lf.nx) := by rw [htry]; exact hm
          rw [hmm] at wm ⊢
          refine ⟨fun hh => absurd rfl hh, fun _ => ?_⟩
          have hlt : alive (({ v1 with lf := v1.lf.took e b } : Wr).spoilt b).lf.l a.B < alive v'.lf.l a.B := by
            refine Nat.lt_of_lt_of_le ?_ hal1
            have hl3 : (({ v1 with lf := v1.lf.took e b } : Wr).spoilt b).lf.l = upd (v1.lf.took e b).l b 3 := by
              show ((v1.lf.took e b).set b 3).l = _
              unfold Lf.set
              rw [if_neg (by rw [took_l]; unfold upd; split <;> simp [hl])]
            refine alive_lt (fun j hj hj3 => ?_) hb (by omega) (by rw [hl3]; simp [upd])
            rw [hl3]
            unfold upd
            split
            · rfl
            · rename_i hjb
              rw [took_l]
              unfold upd
              rw [if_neg hjb]
              split <;> exact hj3
          have hbl : (({ v1 with lf := v1.lf.took e b } : Wr).spoilt b).bad.length = v'.bad.length + 1 := by
            show (v1.bad ++ [(b : Int)]).length = _
            rw [hv2]; simp
          exact ⟨⟨i1.failed hb ho hl, ⟨D' + 1 + 1, wm, by omega⟩, by show v1.worn = _; rw [hv1, hw'], by rw [hbl]; omega, hf', fun _ _ _ _ hh => path _ _ _ _ (.fail hit hff hh)⟩, hlt⟩
        · intro e52
          rw [htry] at e52
          split at e52 <;> cases e52
        · intro e0 e53 _
          rw [htry] at e0 e53
          split at e53
          · exact absurd rfl e53
          · rename_i hff
            rw [if_neg hff] at e0
            exact absurd rfl e0)
  exact ⟨H', p, er, s', v', sb', r1, r2, r3, r4⟩
/-- When nothing fails. -/
theorem AppR.calm {t : Tg} {x : Bytes} {s' : Nd} {v' : Wr} {p er : Int} (r : AppR a e t x s v s' v' p er) (hf : s.failNow = false) :
    (v.lf.op < 0 ∧ (∀ i, i < a.B → v.lf.l i ≠ 0) ∧ s' = s ∧ v' = v ∧ p = 0 ∧ er = 130) ∨ ∃ v1 b, Hit a e s v v1 b ∧ s' = s.acted.lay a b v1.lf.nx (frameB a (t.worn (v1.worn b)) x) ∧ v' = { v1 with lf := v1.lf.took e b } ∧ p = ((b * a.P + v1.lf.nx : Nat) : Int) ∧ er = 0 := by
  cases r with
  | full h1 h2 => exact .inl ⟨h1, h2, rfl, rfl, rfl, rfl⟩
  | good h1 h2 => exact .inr ⟨_, _, h1, rfl, rfl, rfl, rfl⟩
  | fail h1 h2 _ => rw [hf] at h2; cases h2
end
end Ev

/- Chapter 13: reading what was told; a calm chip. -/
namespace Ev
open Go (IntKind)

theorem divP (b q P : Nat) (hq : q < P) : (b * P + q) / P = b ∧ (b * P + q) % P = q := by
  have h : b * P + q = q + P * b := by rw [Nat.mul_comm]; omega
  constructor
  · rw [h, Nat.add_mul_div_left _ _ (by omega), Nat.div_eq_of_lt hq]; omega
  · rw [h, Nat.add_mul_mod_self_left, Nat.mod_eq_of_lt hq]
/-- What stands is read. -/
theorem read_told {a : NdA} {s : Nd} {b q : Nat} {t : Tg} {x : Bytes} (ho : s.off = false) (hb : b < a.B) (hq : q < a.P) (hp : s.pages b q = frameB a t x) (ht : tagOK t = true) (hseq : 0 ≤ t.2.1 ∧ t.2.1 < 18446744073709551616) (hS : a.S < 65536) (hx : x.length ≤ a.S) : readW a s (b * a.P + q) = (t, x, 0, ()) := by
  obtain ⟨e1, e2⟩ := divP b q a.P hq
  have h0 : s.inE a (b : Int) (q : Int) = 0 := inE_yes ho hb hq
  have hl : (frameB a t x).length = a.S + 32 := frameB_length hx
  have hr : s.readT a (b : Int) (q : Int) = ((frameB a t x).take a.S, (frameB a t x).drop a.S, 0, ()) := by
    unfold Nd.readT
    rw [if_neg (by rw [h0]; simp), Int.toNat_natCast, Int.toNat_natCast]
    unfold Nd.read
    rw [if_neg (by rw [hp]; intro hh; rw [hh] at hl; simp at hl), hp]
  have hv : lookP ((frameB a t x).take a.S) ((frameB a t x).drop a.S) = (1, t, x, ()) := view_frame ht hseq hS hx
  unfold readW
  rw [e1, e2, hr]
  simp only [hv, if_true]
theorem lay_here {a : NdA} {s : Nd} {b p : Nat} {t : Tg} {x : Bytes} (hx : x.length ≤ a.S) : (s.lay a b p (frameB a t x)).pages b p = frameB a t x := by
  unfold Nd.lay upd2
  simp only
  rw [if_pos ⟨trivial, trivial⟩, if_neg (frame_ne_full hx)]
theorem lay_there {a : NdA} {s : Nd} {b p : Nat} {T : Bytes} {k q : Nat} (h : ¬ (k = b ∧ q = p)) : (s.lay a b p T).pages k q = s.pages k q := by
  unfold Nd.lay upd2
  simp only
  rw [if_neg h]

theorem WInv.new (a : NdA) (fails : List Int) (hP : 0 < a.P) : WInv a (Nd.new [] fails []) Wr.new := by
  refine ⟨rfl, rfl, fun i hi => ⟨by show (0 : Int) ≤ 0; decide, by show (0 : Int) ≤ 3; decide⟩, .inl (by show (-1 : Int) < 0; decide), fun i hi _ q hq => rfl, fun i hi h => ?_, fun i hi h => ?_⟩
  · have h' : decide ((i : Int) ∈ ([] : List Int)) = true := h
    simp at h'
  · have h' : (0 : Int) = 1 := h
    omega
theorem Wf.new' {a : NdA} {cuts : List Cut} {fails : List Int} (hc : ∀ x ∈ cuts, 0 ≤ x.2.2.1 ∧ x.2.2.1 < 256) (sz : 1 ≤ a.B ∧ a.B ≤ 1000 ∧ 1 ≤ a.P ∧ a.P ≤ 1000 ∧ a.S ≤ 1000) : Wf a (Nd.new cuts fails []) 0 :=
  ⟨⟨by show (0 : Int) ≤ 0; decide, by show (0 : Int) ≤ 0; decide⟩, fun b => ⟨by show (0 : Int) ≤ 0; decide, by show (0 : Int) ≤ 0; decide⟩, hc, fun b p => .inl rfl, by decide, sz⟩
theorem tagN_seq {n : Nat} (hn : n < 4294967296) {w : Int} : 0 ≤ ((tagN n).worn w).2.1 ∧ ((tagN n).worn w).2.1 < 18446744073709551616 := by
  show 0 ≤ (n : Int) ∧ (n : Int) < 18446744073709551616
  omega

theorem awake13 : law13_awake = some (true, ()) := by
  unfold law13_awake law13_awake.on
  obtain ⟨H1, a, e, z, b1, b2, b3, hB0, hB1, hP0, hP1, hS0, hS1⟩ := begun13 (H := []) (f1 := ⟨none, 0, 0⟩) (f2 := ⟨none, 0, 0⟩) (f3 := ⟨none, 0, 0⟩) (t1 := ⟨none, 0, 0⟩) (t2 := ⟨none, 0, 0⟩) (cuts := []) (fails := []) (0, 0, 0, ()) rfl rfl (Row.ni [] 3 0) (Row.ni [] 1 0) (by decide) (by decide)
  have sz : 1 ≤ a.B ∧ a.B ≤ 1000 ∧ 1 ≤ a.P ∧ a.P ≤ 1000 ∧ a.S ≤ 1000 := by omega
  obtain ⟨eB, eP⟩ := b2.eB
  have i0 := WInv.new a [] (show 0 < a.P by omega)
  have w0 := Wf.new' (fails := []) (fun x (hx : x ∈ ([] : List Cut)) => by cases hx) sz
  have tk : ∀ n : Nat, ∀ w : Int, 0 ≤ w → w ≤ 1000000 → tagOK ((tagN n).worn w) = true := fun n w h1 h2 => tag_ok (by omega)
  obtain ⟨H2, p2, er2, s2, v2, sb2, c1, c2, c3, c4, c5, c6, c7, c8, c9⟩ := app_calm (t := tagN 1) (x := [111, 110, 101]) b2 i0 w0 (by decide) (by omega) (by decide) (fun j hj => ⟨Int.le_refl 0, by show (0 : Int) ≤ 1000000; decide⟩) (tk 1) (tagN_seq (by decide) (w := 0)) (by show 3 ≤ a.S; omega)
  rcases c4.calm (failNow_nil rfl) with ⟨_, hh, _⟩ | ⟨v1, b, hit, rfl, rfl, rfl, rfl⟩
  · exact absurd rfl (hh 0 (by omega))
  have hb0 : b = 0 ∧ v1.lf.nx = 0 := by
    rcases hit.op with ⟨hh, _⟩ | ⟨_, _, c, hc, _, hc2, rfl⟩ | ⟨_, hh, _⟩
    · exact absurd hh (by show ¬ (0 : Int) ≤ -1; decide)
    · have ho := hit.ho
      have hcb : (c : Int) = (b : Int) := ho
      refine ⟨?_, rfl⟩
      by_cases h0 : c = 0
      · omega
      · have := (hc2 0 (by omega) rfl).2 (by omega)
        exact absurd this (by show ¬ (0 : Int) < 0; decide)
    · cases hh
  obtain ⟨hb, hnx⟩ := hb0
  subst hb
  have ho2 : (v1.lf.took e 0).op = 0 := by rw [took_op, if_neg (by omega)]; exact hit.ho
  have hn2 : (v1.lf.took e 0).nx = 1 := by unfold Lf.took; split <;> (simp; omega)
  have hl2 : (v1.lf.took e 0).l 0 = 1 := by rw [took_l, if_neg (by omega)]; exact hit.hl
  obtain ⟨H3, p3, er3, s3, v3, sb3, d1, d2, d3, d4, d5, d6, d7, d8, d9⟩ := app_calm (t := tagN 2) (x := [116, 119, 111]) c2 c5 c6 (by decide) (by omega) (by show v1.bad.length ≤ _; rw [hit.bad]; decide) (fun j hj => by
    show 0 ≤ v1.worn j ∧ v1.worn j ≤ 1000000
    rw [hit.worn]; exact ⟨Int.le_refl 0, by show (0 : Int) ≤ 1000000; decide⟩) (tk 2) (tagN_seq (by decide) (w := 0)) (by show 3 ≤ a.S; omega)
  rcases d4.calm (failNow_nil rfl) with ⟨hh, _⟩ | ⟨v5, b5, hit5, rfl, rfl, rfl, rfl⟩
  · have : (v1.lf.took e 0).op < 0 := hh
    omega
  have hv5 : v5 = { v1 with lf := v1.lf.took e 0 } := by
    rcases hit5.op with ⟨_, _, hh⟩ | ⟨hh, _⟩ | ⟨_, hh, _⟩
    · exact hh
    · have : (v1.lf.took e 0).op < 0 := hh
      omega
    · cases hh
  have hb5 : b5 = 0 := by
    have := hit5.ho
    rw [hv5] at this
    have h' : (v1.lf.took e 0).op = (b5 : Int) := this
    omega
  subst hb5
  have hn5 : v5.lf.nx = 1 := by rw [hv5]; exact hn2
  obtain ⟨H4, r1, r2, r3⟩ := write_Read d2 d6 (k := 1) (by decide)
  have hoff := d5.off
  have hrd := read_told (q := 1) (t := (tagN 2).worn (v5.worn 0)) (x := [116, 119, 111]) hoff (show 0 < a.B by omega) (by omega) (by rw [hn5]; exact lay_here (by show 3 ≤ a.S; omega)) (by rw [hv5]; show tagOK ((tagN 2).worn (v1.worn 0)) = true; rw [hit.worn]; rfl) (tagN_seq (by decide)) (by omega) (by show 3 ≤ a.S; omega)
  rw [show 0 * a.P + 1 = 1 by omega] at hrd
  rw [hrd] at r1
  have hp2 : ((0 * a.P + v1.lf.nx : Nat) : Int) = 0 := by rw [hnx]; omega
  have hp3 : ((0 * a.P + v5.lf.nx : Nat) : Int) = 1 := by rw [hn5]; omega
  rw [hp2] at c1
  rw [hp3] at d1
  have rr := r2.push (tagB ((tagN 2).worn (v5.worn 0)))
  have hl3 : (v5.lf.took e 0).l 0 = 1 := by rw [took_l, if_neg (by omega), hv5]; exact hl2
  have hLife := write_Life rr
  have hIs := life_Is rr.lf (i := 0) (by omega)
  rw [show ({ v5 with lf := v5.lf.took e 0 } : Wr).lf.l 0 = 1 from hl3] at hIs
  have t1 := tag_eq (n := 1) (by decide)
  have t2 := tag_eq (n := 2) (by decide)
  have q1 : ((1 : Nat) : Int) = 1 := rfl
  have q2 : ((2 : Nat) : Int) = 2 := rfl
  rw [q1] at t1 r1
  rw [q2] at t2
  have eg : ∀ n, ((tagN n).1, (tagN n).2.1, (tagN n).2.2.1, (tagN n).2.2.2.1, (tagN n).2.2.2.2.1, ()) = tagN n := fun _ => rfl
  have w1 := wr_last (H := H4) (cs := [.int .i64 0, .int .u64 0, .int .i64 0, .int .i64 0, .int .i64 0]) (bk := .exact) (new := [.int .i64 ((tagN 2).worn (v5.worn 0)).1, .int .u64 ((tagN 2).worn (v5.worn 0)).2.1, .int .i64 ((tagN 2).worn (v5.worn 0)).2.2.1, .int .i64 ((tagN 2).worn (v5.worn 0)).2.2.2.1, .int .i64 ((tagN 2).worn (v5.worn 0)).2.2.2.2.1]) (o := 0) (by decide) (by simp)
  have w1' : wr (H4 ++ [Blk.cells [.int .i64 0, .int .u64 0, .int .i64 0, .int .i64 0, .int .i64 0] .exact]) H4.length 0 [.int .i64 ((tagN 2).worn (v5.worn 0)).1, .int .u64 ((tagN 2).worn (v5.worn 0)).2.1, .int .i64 ((tagN 2).worn (v5.worn 0)).2.2.1, .int .i64 ((tagN 2).worn (v5.worn 0)).2.2.2.1, .int .i64 ((tagN 2).worn (v5.worn 0)).2.2.2.2.1] = some (H4 ++ [tagB ((tagN 2).worn (v5.worn 0))]) := w1
  have ru : rdI .u64 (H4 ++ [tagB ((tagN 2).worn (v5.worn 0))]) H4.length 1 = some 2 := rdI_of app_last rfl
  have q0 : ((0 : Nat) : Int) = 0 := rfl
  rw [q0] at hIs
  simp only [b1, bind_some, Bool.not_true, cond_f, t1, t2, eg, c1, d1, r1, w1', decide_true, cond_t, ru, hLife, hIs]
end Ev

/- Chapter 13: a page is written, when nothing fails and the block is known. -/
namespace Ev
open Go (IntKind)

def Nxt (e : LfA) (v : Wr) (b : Nat) : Prop := v.lf.op = (b : Int) ∨ (v.lf.op < 0 ∧ b < e.B ∧ v.lf.l b = 0 ∧ ∀ c, c < e.B → v.lf.l c = 0 → v.worn b ≤ v.worn c ∧ (c < b → v.worn b < v.worn c))
def Wr.opn (v : Wr) (b : Nat) : Wr := if v.lf.op < 0 then { v with lf := ⟨upd v.lf.l b 1, (b : Int), 0⟩ } else v
def Wr.wrote (v : Wr) (e : LfA) (b : Nat) : Wr := { v.opn b with lf := (v.opn b).lf.took e b }
theorem hit_nxt {a : NdA} {e : LfA} {s : Nd} {v v1 : Wr} {b b' : Nat} (h : Hit a e s v v1 b') (n : Nxt e v b) : b' = b ∧ v1 = v.opn b := by
  have ho := h.ho
  rcases h.op with ⟨h1, _, rfl⟩ | ⟨h1, _, c, hc, hf, hm, rfl⟩ | ⟨_, hh, _⟩
  · rcases n with n | ⟨n, _⟩
    · exact ⟨by omega, by unfold Wr.opn; rw [if_neg (by omega)]⟩
    · omega
  · rcases n with n | ⟨_, hb, hbf, hbm⟩
    · omega
    · have ho' : (c : Int) = (b' : Int) := ho
      have hcb : c = b := by
        have h2 := hm b hb hbf
        have h3 := hbm c hc hf
        by_cases hlt : c < b
        · have := h3.2 hlt; omega
        · by_cases hgt : b < c
          · have := h2.2 hgt; omega
          · omega
      exact ⟨by omega, by unfold Wr.opn; rw [if_pos h1, hcb]⟩
  · cases hh
theorem wrote_worn {v : Wr} {e : LfA} {b : Nat} : (v.wrote e b).worn = v.worn ∧ (v.wrote e b).bad = v.bad := by
  unfold Wr.wrote Wr.opn
  split <;> exact ⟨rfl, rfl⟩
section
variable {N : Nat → Prop} {H : Heap} {z : WrA} {a : NdA} {e : LfA} {s : Nd} {v : Wr} {sb : Sl} {D : Int}
theorem app_next (h : WrAt N H z a e s v sb) (i : WInv a s v) (w : Wf a s D) (hD : D + 100 ≤ 1000000) (hB : a.B ≤ 16) (hS : a.S ≤ 1000) (hbad : v.bad.length ≤ 100000) {n : Nat} (hn : n < 4294967296) {x : Bytes} (hw : ∀ j, j < a.B → 0 ≤ v.worn j ∧ v.worn j ≤ 1000000)
    (hx : x.length ≤ a.S) (hf : s.failNow = false) {b : Nat} (nx : Nxt e v b) :
    b < a.B ∧ (v.opn b).lf.op = (b : Int) ∧ (v.opn b).lf.nx < a.P ∧ ∃ H' sb', write_Writer_Append (some (z.w, 0)) (tagN n) x H = some ((((b * a.P + (v.opn b).lf.nx : Nat) : Int), 0, ()), H') ∧ WrAt N H' z a e (s.acted.lay a b (v.opn b).lf.nx (frameB a ((tagN n).worn (v.worn b)) x)) (v.wrote e b) sb' ∧ Keep (fun k => ¬ N k) H H' ∧
      WInv a (s.acted.lay a b (v.opn b).lf.nx (frameB a ((tagN n).worn (v.worn b)) x)) (v.wrote e b) ∧ Wf a (s.acted.lay a b (v.opn b).lf.nx (frameB a ((tagN n).worn (v.worn b)) x)) (D + 40) := by
  obtain ⟨eB, eP⟩ := h.eB
  obtain ⟨H', p, er, s', v', sb', c1, c2, c3, c4, c5, c6, c7, c8, c9⟩ := app_calm (t := tagN n) (x := x) h i w hD hB hbad hw (fun w h1 h2 => tag_ok (by omega)) (tagN_seq hn (w := 0)) hx
  rcases c4.calm hf with ⟨h1, h2, _⟩ | ⟨v1, b', hit, rfl, rfl, rfl, rfl⟩
  · rcases nx with nx | ⟨_, hb, hbf, _⟩
    · omega
    · exact absurd hbf (h2 b (by omega))
  · obtain ⟨rfl, rfl⟩ := hit_nxt hit nx
    have hfr : frameB a ((tagN n).worn ((v.opn b').worn b')) x = frameB a ((tagN n).worn (v.worn b')) x := by rw [hit.worn]
    rw [hfr] at c2 c5 c6
    exact ⟨hit.hb, hit.ho, hit.hn, H', sb', c1, c2, c3, c5, c6⟩
/-- A block is erased, when nothing fails. -/
theorem erase_next (h : WrAt N H z a e s v sb) (i : WInv a s v) (w : Wf a s D) (hD : D + 100 ≤ 1000000) (hbad : v.bad.length ≤ 100000) (hw : ∀ j, j < a.B → 0 ≤ v.worn j ∧ v.worn j < 1000000) (hf : s.failNow = false) {b : Nat} (hb : b < a.B) (hd : s.dead b = false) (hl3 : v.lf.l b ≠ 3) :
    ∃ H' sb', write_Writer_Erase (some (z.w, 0)) (b : Int) H = some ((0, ()), H') ∧ WrAt N H' z a e (({ s with did := s.did + 1, worn := upd s.worn b (s.worn b + 1) } : Nd).clear b a.P) { v with worn := upd v.worn b (v.worn b + 1), lf := v.lf.set b 0 } sb' ∧ Keep (fun k => ¬ N k) H H' ∧
      WInv a (({ s with did := s.did + 1, worn := upd s.worn b (s.worn b + 1) } : Nd).clear b a.P) { v with worn := upd v.worn b (v.worn b + 1), lf := v.lf.set b 0 } ∧ Wf a (({ s with did := s.did + 1, worn := upd s.worn b (s.worn b + 1) } : Nd).clear b a.P) (D + 2) := by
  obtain ⟨eB, eP⟩ := h.eB
  have hsz := w.sz
  have hwb := hw b hb
  obtain ⟨H', sb', c1, c2, c3⟩ := write_Erase h w (by omega) (i := b) (by omega) (i.kind b hb).1 (by omega) (by omega)
  have he := erase_calm (v := v) i.cuts i.off hb (by omega) hd
  rw [hf] at he
  simp only [Bool.false_eq_true, if_false] at he
  rw [he] at c1 c2
  have wd := w.did
  have hww := w.worn
  refine ⟨H', sb', c1, c2, c3, i.erased hb hl3 _ _ _, ?_⟩
  have w1 : Wf a ({ s with did := s.did + 1, worn := upd s.worn b (s.worn b + 1) } : Nd) (D + 2) := ⟨by show 0 ≤ s.did + 1 ∧ s.did + 1 ≤ D + 2; omega, fun c => by
      have h1 := hww b
      have h2 := hww c
      show 0 ≤ upd s.worn b (s.worn b + 1) c ∧ upd s.worn b (s.worn b + 1) c ≤ D + 2
      unfold upd
      split <;> omega, w.cuts, w.fine, by omega, w.sz⟩
  exact w1.clear _ _
end
end Ev

/- Chapter 13: as many pages as there is room for. -/
namespace Ev
open Go (IntKind)

theorem begun13n (H : Heap) (g : Geo) : ∃ H' a e z, law13_Begun g (⟨none, 0, 0⟩, ⟨none, 0, 0⟩, ⟨none, 0, 0⟩, ()) H = some ((some (a.c, 0), some (z.w, 0), true, ()), H') ∧ WrAt (fun k => k < H.length) H' z a e (Nd.new [] [] []) Wr.new ⟨none, 0, 0⟩ ∧ Keep (fun _ => False) H H' ∧ (8 ≤ a.B ∧ a.B ≤ 15 ∧ 4 ≤ a.P ∧ a.P ≤ 11 ∧ 64 ≤ a.S ∧ a.S ≤ 127) ∧
    WInv a (Nd.new [] [] []) Wr.new ∧ Wf a (Nd.new [] [] []) 0 := by
  obtain ⟨H1, a, e, z, b1, b2, b3, hb⟩ := begun13 (H := H) (f1 := ⟨none, 0, 0⟩) (f2 := ⟨none, 0, 0⟩) (f3 := ⟨none, 0, 0⟩) (t1 := ⟨none, 0, 0⟩) (t2 := ⟨none, 0, 0⟩) (cuts := []) (fails := []) g rfl rfl (Row.ni H 3 0) (Row.ni H 1 0) (by decide) (by decide)
  exact ⟨H1, a, e, z, b1, b2, b3, hb, WInv.new a [] (by omega), Wf.new' (fun x hx => by cases hx) (by omega)⟩

/-- Blocks that are written one behind the other; q pages of block b stand. -/
structure FllV (a : NdA) (v : Wr) (b q : Nat) : Prop where
  l : ∀ i, i < a.B → v.lf.l i = if i < b then 2 else if i = b ∧ 0 < q then 1 else 0
  op : v.lf.op = if 0 < q then (b : Int) else -1
  nx : 0 < q → v.lf.nx = q
  q : q < a.P
  worn : ∀ i, v.worn i = 0
  bad : v.bad = []
theorem FllV.new (a : NdA) (hP : 0 < a.P) : FllV a Wr.new 0 0 :=
  ⟨fun i _ => by rw [if_neg (by omega), if_neg (by omega)]; rfl, rfl, fun h => absurd h (by omega), hP, fun _ => rfl, rfl⟩
theorem FllV.nxt {a : NdA} {e : LfA} {v : Wr} {b q : Nat} (f : FllV a v b q) (eB : e.B = a.B) (hb : b < a.B) : Nxt e v b ∧ (v.opn b).lf.nx = q ∧ (v.opn b).lf.op = (b : Int) ∧ (∀ i, i < a.B → (v.opn b).lf.l i = if i < b then 2 else if i = b then 1 else 0) ∧ (v.opn b).worn = v.worn ∧ (v.opn b).bad = v.bad := by
  have hop := f.op
  by_cases hq : 0 < q
  · rw [if_pos hq] at hop
    have ho : v.opn b = v := by unfold Wr.opn; rw [if_neg (by omega)]
    rw [ho]
    refine ⟨.inl hop, f.nx hq, hop, fun i hi => ?_, rfl, rfl⟩
    rw [f.l i hi]
    simp [hq]
  · rw [if_neg hq] at hop
    have ho : v.opn b = { v with lf := ⟨upd v.lf.l b 1, (b : Int), 0⟩ } := by unfold Wr.opn; rw [if_pos (by omega)]
    rw [ho]
    refine ⟨.inr ⟨by omega, by omega, ?_, fun c hc hc0 => ⟨by rw [f.worn, f.worn]; exact Int.le_refl _, fun hlt => ?_⟩⟩, by show 0 = q; omega, rfl, fun i hi => ?_, rfl, rfl⟩
    · rw [f.l b hb, if_neg (by omega), if_neg (by omega)]
    · rw [f.l c (by omega), if_pos hlt] at hc0; omega
    · show upd v.lf.l b 1 i = _
      unfold upd
      by_cases hi2 : i = b
      · rw [if_pos hi2, if_neg (by omega), if_pos hi2]
      · rw [if_neg hi2, f.l i hi, if_neg (show ¬ (i = b ∧ 0 < q) by omega), if_neg hi2]
theorem FllV.step {a : NdA} {e : LfA} {v : Wr} {b q : Nat} (f : FllV a v b q) (eB : e.B = a.B) (eP : e.P = a.P) (hb : b < a.B) : FllV a (v.wrote e b) (if q + 1 = a.P then b + 1 else b) (if q + 1 = a.P then 0 else q + 1) := by
  obtain ⟨_, n1, n2, n3, n4, n5⟩ := f.nxt eB hb
  have hq := f.q
  have hP : 0 < a.P := by omega
  by_cases hl : q + 1 = a.P
  · have hcond : (v.opn b).lf.nx + 1 = e.P := by omega
    rw [if_pos hl, if_pos hl]
    refine ⟨fun i hi => ?_, ?_, fun h => absurd h (by omega), hP, fun i => ?_, ?_⟩
    · show ((v.opn b).lf.took e b).l i = _
      rw [took_l, if_pos hcond]
      unfold upd
      by_cases hi2 : i = b
      · rw [if_pos hi2, if_pos (by omega)]
      · rw [if_neg hi2, n3 i hi, if_neg hi2]
        by_cases hlt : i < b
        · rw [if_pos hlt, if_pos (by omega)]
        · rw [if_neg hlt, if_neg (by omega), if_neg (by omega)]
    · show ((v.opn b).lf.took e b).op = _
      rw [took_op, if_pos hcond, if_neg (by omega)]
    · show (v.opn b).worn i = 0
      rw [n4]; exact f.worn i
    · show (v.opn b).bad = []
      rw [n5]; exact f.bad
  · have hcond : ¬ (v.opn b).lf.nx + 1 = e.P := by omega
    rw [if_neg hl, if_neg hl]
    refine ⟨fun i hi => ?_, ?_, fun _ => ?_, by omega, fun i => ?_, ?_⟩
    · show ((v.opn b).lf.took e b).l i = _
      rw [took_l, if_neg hcond, n3 i hi]
      simp
    · show ((v.opn b).lf.took e b).op = _
      rw [took_op, if_neg hcond, n2, if_pos (by omega)]
    · show ((v.opn b).lf.took e b).nx = _
      unfold Lf.took
      rw [if_neg hcond, n1]
    · show (v.opn b).worn i = 0
      rw [n4]; exact f.worn i
    · show (v.opn b).bad = []
      rw [n5]; exact f.bad
/-- Which page comes behind. -/
theorem next_at {P b q k : Nat} (hk : k = b * P + q) (hq : q < P) : k + 1 = (if q + 1 = P then b + 1 else b) * P + (if q + 1 = P then 0 else q + 1) := by
  split
  · rw [Nat.add_mul, Nat.one_mul]; omega
  · omega
end Ev

/- Chapter 14: pages that are written one behind the other, with whatever tags and texts. -/
namespace Ev
open Go (IntKind)

theorem opened_nx {e : LfA} {v v1 : Wr} {r : Bool} {b : Nat} (h : Opened e v r v1) (n : Nxt e v b) : r = true ∧ v1 = v.opn b := by
  rcases h with ⟨h1, hr, rfl⟩ | ⟨h1, hr, c, hc, hf, hm, rfl⟩ | ⟨h1, _, h2, _⟩
  · exact ⟨hr, by unfold Wr.opn; rw [if_neg (by omega)]⟩
  · rcases n with n | ⟨_, hb, hbf, hbm⟩
    · omega
    · have hcb : c = b := by
        have h2 := hm b hb hbf
        have h3 := hbm c hc hf
        by_cases hlt : c < b
        · have := h3.2 hlt; omega
        · by_cases hgt : b < c
          · have := h2.2 hgt; omega
          · omega
      exact ⟨hr, by unfold Wr.opn; rw [if_pos h1, hcb]⟩
  · rcases n with n | ⟨_, hb, hbf, _⟩
    · omega
    · exact absurd hbf (h2 b hb)
theorem at_inj {P b q b' q' : Nat} (hq : q < P) (hq' : q' < P) (h : b * P + q = b' * P + q') : b = b' ∧ q = q' := by
  have h1 := divP b q P hq
  have h2 := divP b' q' P hq'
  rw [h] at h1
  omega
theorem room_in {b q P B k : Nat} (hk : k = b * P + q) (h : k < B * P) : b < B := by
  by_cases hb : b < B
  · exact hb
  · have := Nat.mul_le_mul_right P (show B ≤ b by omega)
    omega

abbrev Pg := Tg × Bytes
structure OnL (a : NdA) (s : Nd) (v : Wr) (d : Int) (cs : List Cut) (L : List Pg) : Prop where
  off : s.off = false
  did : s.did = d + (L.length : Int)
  cuts : s.cuts = cs
  fails : s.fails = []
  dead : ∀ i, s.dead i = false
  fll : ∃ b q, FllV a v b q ∧ L.length = b * a.P + q
  std : ∀ b q, q < a.P → ∀ y, L[b * a.P + q]? = some y → s.pages b q = frameB a (y.1.worn 0) y.2
  emp : ∀ b q, q < a.P → L.length ≤ b * a.P + q → s.pages b q = []
/-- The power failed in the page behind those. -/
structure TornL (a : NdA) (s : Nd) (L : List Pg) (T : Bytes) : Prop where
  std : ∀ b q, q < a.P → ∀ y, L[b * a.P + q]? = some y → s.pages b q = frameB a (y.1.worn 0) y.2
  torn : ∀ b q, q < a.P → b * a.P + q = L.length → s.pages b q = if T = fullP a then [] else T
  emp : ∀ b q, q < a.P → L.length < b * a.P + q → s.pages b q = []
section
variable {N : Nat → Prop} {H : Heap} {z : WrA} {a : NdA} {e : LfA} {s : Nd} {v : Wr} {sb : Sl} {D d : Int} {cs : List Cut} {L : List Pg}
/-- One page more. -/
theorem onl_app (h : WrAt N H z a e s v sb) (o : OnL a s v d cs L) (hk : L.length < a.B * a.P) (w : Wf a s D) (hD : D + 100 ≤ 1000000) {t : Tg} {x : Bytes} (ht : tagOK (t.worn 0) = true) (hseq : 0 ≤ t.2.1 ∧ t.2.1 < 18446744073709551616) (hx : x.length ≤ a.S) :
    ∃ H' p er s' v' sb', write_Writer_Append (some (z.w, 0)) t x H = some ((p, er, ()), H') ∧ WrAt N H' z a e s' v' sb' ∧ Keep (fun k => ¬ N k) H H' ∧ Wf a s' (D + 1) ∧
      ((s.cutNow = none ∧ er = 0 ∧ p = (L.length : Int) ∧ OnL a s' v' d cs (L ++ [(t, x)])) ∨ (∃ y, s.cutNow = some y ∧ er = 51 ∧ TornL a s' L (tornB y (frameB a (t.worn 0) x)))) := by
  obtain ⟨eB, eP⟩ := h.eB
  have hsz := w.sz
  obtain ⟨b, q, f, hbq⟩ := o.fll
  have hq := f.q
  have hb : b < a.B := room_in hbq hk
  obtain ⟨n1, n2, n3, n4, n5, n6⟩ := f.nxt eB hb
  have hemp : ∀ q', (v.opn b).lf.nx ≤ q' → q' < a.P → s.pages b q' = [] := fun q' h1 h2 => o.emp b q' h2 (by omega)
  have h0 : s.inE a (b : Int) ((v.opn b).lf.nx : Int) = 0 := inE_yes o.off hb (by omega)
  have hdl := dataOf_length hx
  have hww : (v.opn b).worn b = 0 := by rw [n5]; exact f.worn b
  have hsl := spareOf_length (t.worn ((v.opn b).worn b)) x a.S
  have htry : tryW a s t x (v.opn b) b = s.program a b (v.opn b).lf.nx (frameB a (t.worn 0) x) := by
    unfold tryW Nd.progT
    rw [if_neg (by rw [h0]; simp), if_neg (by rw [hdl, hsl]; omega), Int.toNat_natCast, Int.toNat_natCast, used_false hemp, hww]
    simp only [Bool.false_eq_true, if_false]
    rfl
  have hwp : Wf a (tryW a s t x (v.opn b) b).2 (D + 1) := (w.progT (by omega) (b : Int) ((v.opn b).lf.nx : Int) (dataOf x a.S) (spareOf (t.worn ((v.opn b).worn b)) x a.S)).1
  have hlay : ∀ T, ∀ k r, ¬ (k = b ∧ r = q) → (s.acted.lay a b (v.opn b).lf.nx T).pages k r = s.pages k r := fun T k r hne => by
    rw [lay_there (by rw [n2]; exact hne)]; rfl
  obtain ⟨H', p, er, s', v', sb', r1, r2, r3, r4, r5⟩ := write_Append_run (J := fun s' v' => s' = s ∧ v' = v) (Q := fun s' v' p er => Wf a s' (D + 1) ∧ ((s.cutNow = none ∧ er = 0 ∧ p = (L.length : Int) ∧ OnL a s' v' d cs (L ++ [(t, x)])) ∨ (∃ y, s.cutNow = some y ∧ er = 51 ∧ TornL a s' L (tornB y (frameB a (t.worn 0) x))))) (fun _ _ => 0) h ht hseq hx (by omega)
    ⟨rfl, rfl⟩ (by
      rintro s' v' ⟨rfl, rfl⟩
      refine ⟨⟨D, w, by omega⟩, by rw [f.bad]; decide, fun r v1 op => ?_⟩
      obtain ⟨rfl, rfl⟩ := opened_nx op n1
      refine ⟨fun hh => (by cases hh), fun _ => ⟨b, by omega, n3, by omega, by rw [hww]; exact ht, ?_⟩⟩
      cases hcn : s'.cutNow with
      | some y =>
        have hp : tryW a s' t x (v'.opn b) b = (51, s'.acted.lay a b (v'.opn b).lf.nx (tornB y (frameB a (t.worn 0) x))) := by
          rw [htry]
          unfold Nd.program
          rw [hcn]
        rw [hp] at hwp ⊢
        refine ⟨fun hh => (by cases hh), fun hh => (by cases hh), fun hh => (by cases hh), fun _ _ _ => ⟨hwp, .inr ⟨y, rfl, rfl, fun b1 q1 hq1 u hu => ?_, fun b1 q1 hq1 he => ?_, fun b1 q1 hq1 hlt => ?_⟩⟩⟩
        · rw [hlay _ b1 q1 (fun ⟨e1, e2⟩ => by
            subst e1; subst e2
            rw [← hbq] at hu
            simp at hu)]
          exact o.std b1 q1 hq1 u hu
        · obtain ⟨rfl, rfl⟩ := at_inj hq1 hq (he.trans hbq)
          unfold Nd.lay upd2
          simp only
          rw [if_pos ⟨trivial, n2.symm⟩]
        · rw [hlay _ b1 q1 (fun ⟨e1, e2⟩ => by subst e1; subst e2; omega)]
          exact o.emp b1 q1 hq1 (by omega)
      | none =>
        have hp : tryW a s' t x (v'.opn b) b = (0, s'.acted.lay a b (v'.opn b).lf.nx (frameB a (t.worn 0) x)) := by
          rw [htry]
          exact program_ok hcn (o.dead b) (failNow_nil o.fails)
        rw [hp] at hwp ⊢
        refine ⟨fun _ => ⟨hwp, .inl ⟨rfl, rfl, by rw [n2, hbq], ?_⟩⟩, fun hh => (by cases hh), fun hh => (by cases hh), fun hh => absurd rfl hh⟩
        refine ⟨?_, ?_, o.cuts, o.fails, o.dead, ⟨_, _, f.step eB eP hb, by rw [List.length_append]; exact next_at hbq hq⟩, fun b1 q1 hq1 u hu => ?_, fun b1 q1 hq1 hle => ?_⟩
        · show (s'.off || s'.cutNow.isSome) = false
          rw [hcn, o.off]; rfl
        · show s'.did + 1 = _
          rw [o.did, List.length_append]
          show _ = d + ((L.length + 1 : Nat) : Int)
          omega
        · by_cases he : b1 = b ∧ q1 = q
          · obtain ⟨rfl, rfl⟩ := he
            have := lay_here (a := a) (s := s'.acted) (b := b1) (p := (v'.opn b1).lf.nx) (t := t.worn 0) hx
            rw [n2] at this ⊢
            rw [← hbq] at hu
            simp at hu
            rw [this, ← hu]
          · rw [hlay _ b1 q1 he]
            by_cases heq : b1 * a.P + q1 = L.length
            · exact absurd (at_inj hq1 hq (heq.trans hbq)) he
            · refine o.std b1 q1 hq1 u ?_
              by_cases hlt : b1 * a.P + q1 < L.length
              · rwa [List.getElem?_append_left hlt] at hu
              · rw [List.getElem?_eq_none (by simp; omega)] at hu; cases hu
        · rw [List.length_append] at hle
          have hle' : L.length + 1 ≤ b1 * a.P + q1 := hle
          by_cases he : b1 = b ∧ q1 = q
          · obtain ⟨rfl, rfl⟩ := he
            omega
          · rw [hlay _ b1 q1 he]
            exact o.emp b1 q1 hq1 (by omega))
  exact ⟨H', p, er, s', v', sb', r1, r2, r3, r4, r5⟩
end
theorem OnL.new (a : NdA) (hP : 0 < a.P) : OnL a (Nd.new [] [] []) Wr.new 0 [] [] :=
  ⟨rfl, rfl, rfl, rfl, fun i => (by show decide ((i : Int) ∈ ([] : List Int)) = false; simp), ⟨0, 0, FllV.new a hP, by simp⟩, fun b q _ y h => by simp at h, fun _ _ _ _ => rfl⟩
theorem OnL.cutNow {a : NdA} {s : Nd} {v : Wr} {d : Int} {L : List Pg} (o : OnL a s v d [] L) : s.cutNow = none := by
  unfold Nd.cutNow; rw [o.cuts]; rfl
/-- An erased page is not read. -/
theorem read_emp {a : NdA} {s : Nd} {b q : Nat} (hq : q < a.P) (hp : s.pages b q = []) : ∃ er, readW a s (b * a.P + q) = (tag0, [], er, ()) ∧ er ≠ 0 := by
  obtain ⟨e1, e2⟩ := divP b q a.P hq
  unfold readW
  rw [e1, e2]
  by_cases h0 : (s.readT a (b : Int) (q : Int)).2.2.1 = 0
  · rw [if_pos h0]
    have hr : s.readT a (b : Int) (q : Int) = ((fullP a).take a.S, (fullP a).drop a.S, 0, ()) := by
      unfold Nd.readT at h0 ⊢
      split
      · rename_i h1
        rw [if_pos h1] at h0
        exact absurd h0 h1
      · unfold Nd.read
        rw [Int.toNat_natCast, Int.toNat_natCast, if_pos hp]
    have hl : (lookP (s.readT a (b : Int) (q : Int)).1 (s.readT a (b : Int) (q : Int)).2.1).1 ≠ 1 := by
      rw [hr]
      have hc : viewB a (fullP a) = (0, tag0, [], ()) := view_full a
      have : lookP ((fullP a).take a.S) ((fullP a).drop a.S) = (0, tag0, [], ()) := hc
      rw [this]; decide
    rw [if_neg hl]
    exact ⟨3, rfl, by decide⟩
  · rw [if_neg h0]
    exact ⟨_, rfl, h0⟩
end Ev
