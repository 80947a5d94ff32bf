/- Chapter 13: a page is written, when the power stays. -/
import Derived.Test.YtloijdlakkmjgaaSLaw13i
namespace Ev
open Go (IntKind)

/-- A block failed, and was marked. -/
def Nd.failed (a : NdA) (s : Nd) (b p : Nat) : Nd := { (({ s.acted with dead := upd s.dead b true } : Nd).lay a b p (List.replicate (a.S + 32) 0)) with did := s.did + 1 + 1, mark := upd s.mark b true }
/-- The block that is written. -/
structure Hit (a : NdA) (e : LfA) (s : Nd) (v v1 : Wr) (b : Nat) : Prop where
  op : Opened e v true v1
  hb : b < a.B
  ho : v1.lf.op = (b : Int)
  hl : v1.lf.l b = 1
  hn : v1.lf.nx < a.P
  hq : ∀ q, v1.lf.nx ≤ q → q < a.P → s.pages b q = []
  hd : s.dead b = false
  worn : v1.worn = v.worn
  bad : v1.bad = v.bad
inductive AppR (a : NdA) (e : LfA) (t : Tg) (x : Bytes) : Nd → Wr → Nd → Wr → Int → Int → Prop
  | full {s : Nd} {v : Wr} : v.lf.op < 0 → (∀ i, i < a.B → v.lf.l i ≠ 0) → AppR a e t x s v s v 0 130
  | good {s : Nd} {v v1 : Wr} {b : Nat} : Hit a e s v v1 b → s.failNow = false → AppR a e t x s v (s.acted.lay a b v1.lf.nx (frameB a (t.worn (v1.worn b)) x)) { v1 with lf := v1.lf.took e b } ((b * a.P + v1.lf.nx : Nat) : Int) 0
  | fail {s s' : Nd} {v v1 v' : Wr} {b : Nat} {p er : Int} : Hit a e s v v1 b → s.failNow = true → AppR a e t x (s.failed a b v1.lf.nx) (({ v1 with lf := v1.lf.took e b } : Wr).spoilt b) s' v' p er → AppR a e t x s v s' v' p er

def alive (l : Nat → Int) : Nat → Nat
  | 0 => 0
  | n + 1 => alive l n + if l n = 3 then 0 else 1
theorem alive_le (l : Nat → Int) (n : Nat) : alive l n ≤ n := by
  induction n with
  | zero => exact Nat.le_refl _
  | succ n ih => unfold alive; split <;> omega
theorem alive_mono {l l' : Nat → Int} : ∀ {n : Nat}, (∀ i, i < n → l i = 3 → l' i = 3) → alive l' n ≤ alive l n
  | 0, _ => Nat.le_refl _
  | n + 1, h => by
    have := alive_mono (n := n) fun i hi => h i (by omega)
    unfold alive
    by_cases h3 : l n = 3
    · rw [if_pos h3, if_pos (h n (by omega) h3)]; omega
    · rw [if_neg h3]; split <;> omega
theorem alive_lt {l l' : Nat → Int} : ∀ {n : Nat}, (∀ i, i < n → l i = 3 → l' i = 3) → ∀ {b : Nat}, b < n → l b ≠ 3 → l' b = 3 → alive l' n < alive l n
  | 0, _, _, hb, _, _ => absurd hb (by omega)
  | n + 1, h, b, hb, h1, h2 => by
    have hm := alive_mono (n := n) fun i hi => h i (by omega)
    unfold alive
    by_cases hbn : b = n
    · subst hbn; rw [if_neg h1, if_pos h2]; omega
    · have := alive_lt (n := n) (fun i hi => h i (by omega)) (b := b) (by omega) h1 h2
      by_cases h3 : l n = 3
      · rw [if_pos h3, if_pos (h n (by omega) h3)]; omega
      · rw [if_neg h3]; split <;> omega

theorem took_l {e : LfA} {f : Lf} {b : Nat} (i : Nat) : (f.took e b).l i = if f.nx + 1 = e.P then upd f.l b 2 i else f.l i := by
  unfold Lf.took
  split <;> rfl
theorem took_op {e : LfA} {f : Lf} {b : Nat} : (f.took e b).op = if f.nx + 1 = e.P then -1 else f.op := by
  unfold Lf.took
  split <;> rfl
section
variable {N : Nat → Prop} {H : Heap} {z : WrA} {a : NdA} {e : LfA} {s : Nd} {v : Wr} {sb : Sl} {D : Int}

/-- A block that failed in writing. -/
theorem WInv.failed {v1 : Wr} {b : Nat} (i : WInv a s v1) (hb : b < a.B) (ho : v1.lf.op = (b : Int)) (hl : v1.lf.l b = 1) : WInv a (s.failed a b v1.lf.nx) (({ v1 with lf := v1.lf.took e b } : Wr).spoilt b) := by
  have hoff : (s.failed a b v1.lf.nx).off = false := by
    show (s.off || s.cutNow.isSome) = false
    rw [cutNow_nil i.cuts, i.off]; rfl
  have hne : ∀ {j : Nat}, j ≠ b → (v1.lf.took e b).l j = v1.lf.l j := fun {j} h => by
    rw [took_l]
    split
    · unfold upd; rw [if_neg h]
    · rfl
  have hbl : (v1.lf.took e b).l b = 1 ∨ (v1.lf.took e b).l b = 2 := by
    rw [took_l]
    split
    · right; simp [upd]
    · exact .inl hl
  refine WInv.spoilt (v := { v1 with lf := v1.lf.took e b }) i.cuts hoff hb (by show (v1.lf.took e b).l b ≠ 3; omega) (fun j hj => ?_) ?_ (fun j hj hj0 hjb q hq => ?_) (fun j hj hjd hjb => ?_) (fun j hj hj1 hjb => ?_)
  · show 0 ≤ (v1.lf.took e b).l j ∧ (v1.lf.took e b).l j ≤ 3
    by_cases hjb : j = b
    · subst hjb; omega
    · rw [hne hjb]; exact i.kind j hj
  · show (v1.lf.took e b).op < 0 ∨ (v1.lf.took e b).op = (b : Int) ∨ _
    rw [took_op]
    split
    · left; omega
    · exact .inr (.inl ho)
  · have h0 : v1.lf.l j = 0 := by rw [← hne hjb]; exact hj0
    have : (s.failed a b v1.lf.nx).pages j q = s.pages j q := by
      unfold Nd.failed Nd.lay upd2
      simp only
      rw [if_neg (fun h => hjb h.1)]; rfl
    rw [this]
    exact i.free j hj h0 q hq
  · have : s.dead j = true := by
      have h' : upd s.dead b true j = true := hjd
      unfold upd at h'
      rw [if_neg hjb] at h'
      exact h'
    show (v1.lf.took e b).l j = 3
    rw [hne hjb]
    exact i.dead j hj this
  · have h1 : v1.lf.l j = 1 := by rw [← hne hjb]; exact hj1
    have := i.one j hj h1
    omega

/-- A page is written, when the power stays. -/
theorem app_calm (h : WrAt N H z a e s v sb) (i : WInv a s v) (w : Wf a s D) (hD : D + 100 ≤ 1000000) (hB : a.B ≤ 16) (hbad : v.bad.length ≤ 100000) {t : Tg} {x : Bytes} (hw : ∀ j, j < a.B → 0 ≤ v.worn j ∧ v.worn j ≤ 1000000)
    (ht : ∀ n : Int, 0 ≤ n → n ≤ 1000000 → tagOK (t.worn n) = true) (hseq : 0 ≤ t.2.1 ∧ t.2.1 < 18446744073709551616) (hx : x.length ≤ a.S) :
    ∃ H' p er s' v' sb', write_Writer_Append (some (z.w, 0)) t x H = some ((p, er, ()), H') ∧ WrAt N H' z a e s' v' sb' ∧ Keep (fun k => ¬ N k) H H' ∧ AppR a e t x s v s' v' p er ∧ WInv a s' v' ∧ Wf a s' (D + 40) ∧ v'.worn = v.worn ∧ v'.bad.length ≤ v.bad.length + 16 ∧ s'.fails = s.fails := by
  obtain ⟨eB, eP⟩ := h.eB
  have hsz := w.sz
  have hP : 0 < a.P := by omega
  obtain ⟨H', p, er, s', v', sb', r1, r2, r3, r4⟩ := write_Append_run (J := fun s' v' => WInv a s' v' ∧ (∃ D' : Int, Wf a s' D' ∧ D' + 2 * (alive v'.lf.l a.B : Int) ≤ D + 2 * (alive v.lf.l a.B : Int)) ∧ v'.worn = v.worn ∧ v'.bad.length + alive v'.lf.l a.B ≤ v.bad.length + alive v.lf.l a.B ∧ s'.fails = s.fails ∧ ∀ s2 v2 p er, AppR a e t x s' v' s2 v2 p er → AppR a e t x s v s2 v2 p er)
    (Q := fun s' v' p er => AppR a e t x s v s' v' p er ∧ WInv a s' v' ∧ Wf a s' (D + 40) ∧ v'.worn = v.worn ∧ v'.bad.length ≤ v.bad.length + 16 ∧ s'.fails = s.fails) (fun _ v' => alive v'.lf.l a.B) h (ht 0 (by omega) (by omega)) hseq hx (by omega)
    ⟨i, ⟨D, w, Int.le_refl _⟩, rfl, Nat.le_refl _, rfl, fun _ _ _ _ h => h⟩ (by
      rintro s' v' ⟨i', ⟨D', w', hD'⟩, hw', hb', hf', path⟩
      have hal := alive_le v.lf.l a.B
      have hal' := alive_le v'.lf.l a.B
      refine ⟨⟨D', w', by omega⟩, by omega, fun r v1 o => ⟨fun hr => ?_, fun hr => ?_⟩⟩
      · subst hr
        rcases o with ⟨_, h, _⟩ | ⟨_, h, _⟩ | ⟨h1, _, h2, h3⟩
        · cases h
        · cases h
        · subst h3
          exact ⟨path _ _ _ _ (.full h1 (by rw [← eB]; exact h2)), i', w'.le (by omega) (by omega), hw', by omega, hf'⟩
      · subst hr
        obtain ⟨b, hb, ho, hl, hn, hq, hd, hv1, hv2, i1⟩ := i'.opened eB hP o
        have hwb : v1.worn b = v.worn b := by rw [hv1, hw']
        have hwb' := hw b hb
        have htok : tagOK (t.worn (v1.worn b)) = true := ht _ (by rw [hwb]; omega) (by rw [hwb]; omega)
        have hal1 : alive v1.lf.l a.B ≤ alive v'.lf.l a.B := by
          refine alive_mono fun j hj hj3 => ?_
          rcases o with ⟨_, _, rfl⟩ | ⟨_, _, c, hc, hc0, _, rfl⟩ | ⟨_, hh, _⟩
          · exact hj3
          · show upd v'.lf.l c 1 j = 3
            unfold upd
            split
            · rename_i hjc; subst hjc; omega
            · exact hj3
          · cases hh
        have hit : Hit a e s' v' v1 b := ⟨o, hb, ho, hl, hn, hq, hd, hv1, hv2⟩
        have htry := try_calm (t := t) (x := x) (v := v1) i'.cuts i'.off hb hn hq hd hx
        refine ⟨b, by rw [eB]; exact hb, ho, by omega, htok, ?_, ?_, ?_, ?_⟩
        · intro e0
          have hff : s'.failNow = false := by
            cases hff : s'.failNow with
            | false => rfl
            | true => rw [htry, if_pos hff] at e0; cases e0
          have wp := (w'.progT (by omega) (b : Int) (v1.lf.nx : Int) (dataOf x a.S) (spareOf (t.worn (v1.worn b)) x a.S)).1
          have ht2 : tryW a s' t x v1 b = s'.progT a (b : Int) (v1.lf.nx : Int) (dataOf x a.S) (spareOf (t.worn (v1.worn b)) x a.S) := rfl
          rw [← ht2] at wp
          rw [hff] at htry
          simp only [Bool.false_eq_true, if_false] at htry
          rw [htry] at wp ⊢
          exact ⟨path _ _ _ _ (.good hit hff), i1.took eP hb ho hl hn _, wp.le (by omega) (by omega), by show v1.worn = _; rw [hv1, hw'], by show v1.bad.length ≤ _; rw [hv2]; omega, hf'⟩
        · intro e53
          have hff : s'.failNow = true := by
            cases hff : s'.failNow with
            | true => rfl
            | false => rw [htry, hff] at e53; simp at e53
          have wp := (w'.progT (by omega) (b : Int) (v1.lf.nx : Int) (dataOf x a.S) (spareOf (t.worn (v1.worn b)) x a.S)).1
          have wm := (wp.markT (by omega) (b : Int)).1
          have ht2 : tryW a s' t x v1 b = s'.progT a (b : Int) (v1.lf.nx : Int) (dataOf x a.S) (spareOf (t.worn (v1.worn b)) x a.S) := rfl
          rw [← ht2] at wm
          rw [if_pos hff] at htry
          have hoff : (s'.off || s'.cutNow.isSome) = false := by rw [cutNow_nil i'.cuts, i'.off]; rfl
          have hm := mark_calm (a := a) (s := ({ s'.acted with dead := upd s'.dead b true } : Nd).lay a b v1.lf.nx (List.replicate (a.S + 32) 0)) (b := b) i'.cuts hoff hb hP
          have hmm : (tryW a s' t x v1 b).2.markT a (b : Int) = (0, s'.failed a b v1.lf.nx) := by rw [htry]; exact hm
          rw [hmm] at wm ⊢
          refine ⟨fun hh => absurd rfl hh, fun _ => ?_⟩
          have hlt : alive (({ v1 with lf := v1.lf.took e b } : Wr).spoilt b).lf.l a.B < alive v'.lf.l a.B := by
            refine Nat.lt_of_lt_of_le ?_ hal1
            have hl3 : (({ v1 with lf := v1.lf.took e b } : Wr).spoilt b).lf.l = upd (v1.lf.took e b).l b 3 := by
              show ((v1.lf.took e b).set b 3).l = _
              unfold Lf.set
              rw [if_neg (by rw [took_l]; unfold upd; split <;> simp [hl])]
            refine alive_lt (fun j hj hj3 => ?_) hb (by omega) (by rw [hl3]; simp [upd])
            rw [hl3]
            unfold upd
            split
            · rfl
            · rename_i hjb
              rw [took_l]
              unfold upd
              rw [if_neg hjb]
              split <;> exact hj3
          have hbl : (({ v1 with lf := v1.lf.took e b } : Wr).spoilt b).bad.length = v'.bad.length + 1 := by
            show (v1.bad ++ [(b : Int)]).length = _
            rw [hv2]; simp
          exact ⟨⟨i1.failed hb ho hl, ⟨D' + 1 + 1, wm, by omega⟩, by show v1.worn = _; rw [hv1, hw'], by rw [hbl]; omega, hf', fun _ _ _ _ hh => path _ _ _ _ (.fail hit hff hh)⟩, hlt⟩
        · intro e52
          rw [htry] at e52
          split at e52 <;> cases e52
        · intro e0 e53 _
          rw [htry] at e0 e53
          split at e53
          · exact absurd rfl e53
          · rename_i hff
            rw [if_neg hff] at e0
            exact absurd rfl e0)
  exact ⟨H', p, er, s', v', sb', r1, r2, r3, r4⟩
/-- When nothing fails. -/
theorem AppR.calm {t : Tg} {x : Bytes} {s' : Nd} {v' : Wr} {p er : Int} (r : AppR a e t x s v s' v' p er) (hf : s.failNow = false) :
    (v.lf.op < 0 ∧ (∀ i, i < a.B → v.lf.l i ≠ 0) ∧ s' = s ∧ v' = v ∧ p = 0 ∧ er = 130) ∨ ∃ v1 b, Hit a e s v v1 b ∧ s' = s.acted.lay a b v1.lf.nx (frameB a (t.worn (v1.worn b)) x) ∧ v' = { v1 with lf := v1.lf.took e b } ∧ p = ((b * a.P + v1.lf.nx : Nat) : Int) ∧ er = 0 := by
  cases r with
  | full h1 h2 => exact .inl ⟨h1, h2, rfl, rfl, rfl, rfl⟩
  | good h1 h2 => exact .inr ⟨_, _, h1, rfl, rfl, rfl, rfl⟩
  | fail h1 h2 _ => rw [hf] at h2; cases h2
end
end Ev
