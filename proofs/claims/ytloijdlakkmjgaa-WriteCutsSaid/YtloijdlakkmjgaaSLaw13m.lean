/- Chapter 13: a page is written, when nothing fails and the block is known. -/
import Derived.Test.YtloijdlakkmjgaaSLaw13k
import Derived.Test.YtloijdlakkmjgaaUp
namespace Ev
open Go (IntKind)

def Nxt (e : LfA) (v : Wr) (b : Nat) : Prop := v.lf.op = (b : Int) ∨ (v.lf.op < 0 ∧ b < e.B ∧ v.lf.l b = 0 ∧ ∀ c, c < e.B → v.lf.l c = 0 → v.worn b ≤ v.worn c ∧ (c < b → v.worn b < v.worn c))
def Wr.opn (v : Wr) (b : Nat) : Wr := if v.lf.op < 0 then { v with lf := ⟨upd v.lf.l b 1, (b : Int), 0⟩ } else v
def Wr.wrote (v : Wr) (e : LfA) (b : Nat) : Wr := { v.opn b with lf := (v.opn b).lf.took e b }
theorem hit_nxt {a : NdA} {e : LfA} {s : Nd} {v v1 : Wr} {b b' : Nat} (h : Hit a e s v v1 b') (n : Nxt e v b) : b' = b ∧ v1 = v.opn b := by
  have ho := h.ho
  rcases h.op with ⟨h1, _, rfl⟩ | ⟨h1, _, c, hc, hf, hm, rfl⟩ | ⟨_, hh, _⟩
  · rcases n with n | ⟨n, _⟩
    · exact ⟨by omega, by unfold Wr.opn; rw [if_neg (by omega)]⟩
    · omega
  · rcases n with n | ⟨_, hb, hbf, hbm⟩
    · omega
    · have ho' : (c : Int) = (b' : Int) := ho
      have hcb : c = b := by
        have h2 := hm b hb hbf
        have h3 := hbm c hc hf
        by_cases hlt : c < b
        · have := h3.2 hlt; omega
        · by_cases hgt : b < c
          · have := h2.2 hgt; omega
          · omega
      exact ⟨by omega, by unfold Wr.opn; rw [if_pos h1, hcb]⟩
  · cases hh
theorem wrote_worn {v : Wr} {e : LfA} {b : Nat} : (v.wrote e b).worn = v.worn ∧ (v.wrote e b).bad = v.bad := by
  unfold Wr.wrote Wr.opn
  split <;> exact ⟨rfl, rfl⟩
section
variable {N : Nat → Prop} {H : Heap} {z : WrA} {a : NdA} {e : LfA} {s : Nd} {v : Wr} {sb : Sl} {D : Int}
theorem app_next (h : WrAt N H z a e s v sb) (i : WInv a s v) (w : Wf a s D) (hD : D + 100 ≤ 1000000) (hB : a.B ≤ 16) (hS : a.S ≤ 1000) (hbad : v.bad.length ≤ 100000) {n : Nat} (hn : n < 4294967296) {x : Bytes} (hw : ∀ j, j < a.B → 0 ≤ v.worn j ∧ v.worn j ≤ 1000000)
    (hx : x.length ≤ a.S) (hf : s.failNow = false) {b : Nat} (nx : Nxt e v b) :
    b < a.B ∧ (v.opn b).lf.op = (b : Int) ∧ (v.opn b).lf.nx < a.P ∧ ∃ H' sb', write_Writer_Append (some (z.w, 0)) (tagN n) x H = some ((((b * a.P + (v.opn b).lf.nx : Nat) : Int), 0, ()), H') ∧ WrAt N H' z a e (s.acted.lay a b (v.opn b).lf.nx (frameB a ((tagN n).worn (v.worn b)) x)) (v.wrote e b) sb' ∧ Keep (fun k => ¬ N k) H H' ∧
      WInv a (s.acted.lay a b (v.opn b).lf.nx (frameB a ((tagN n).worn (v.worn b)) x)) (v.wrote e b) ∧ Wf a (s.acted.lay a b (v.opn b).lf.nx (frameB a ((tagN n).worn (v.worn b)) x)) (D + 40) := by
  obtain ⟨eB, eP⟩ := h.eB
  obtain ⟨H', p, er, s', v', sb', c1, c2, c3, c4, c5, c6, c7, c8, c9⟩ := app_calm (t := tagN n) (x := x) h i w hD hB hbad hw (fun w h1 h2 => tag_ok (by omega)) (tagN_seq hn (w := 0)) hx
  rcases c4.calm hf with ⟨h1, h2, _⟩ | ⟨v1, b', hit, rfl, rfl, rfl, rfl⟩
  · rcases nx with nx | ⟨_, hb, hbf, _⟩
    · omega
    · exact absurd hbf (h2 b (by omega))
  · obtain ⟨rfl, rfl⟩ := hit_nxt hit nx
    have hfr : frameB a ((tagN n).worn ((v.opn b').worn b')) x = frameB a ((tagN n).worn (v.worn b')) x := by rw [hit.worn]
    rw [hfr] at c2 c5 c6
    exact ⟨hit.hb, hit.ho, hit.hn, H', sb', c1, c2, c3, c5, c6⟩
/-- A block is erased, when nothing fails. -/
theorem erase_next (h : WrAt N H z a e s v sb) (i : WInv a s v) (w : Wf a s D) (hD : D + 100 ≤ 1000000) (hbad : v.bad.length ≤ 100000) (hw : ∀ j, j < a.B → 0 ≤ v.worn j ∧ v.worn j < 1000000) (hf : s.failNow = false) {b : Nat} (hb : b < a.B) (hd : s.dead b = false) (hl3 : v.lf.l b ≠ 3) :
    ∃ H' sb', write_Writer_Erase (some (z.w, 0)) (b : Int) H = some ((0, ()), H') ∧ WrAt N H' z a e (({ s with did := s.did + 1, worn := upd s.worn b (s.worn b + 1) } : Nd).clear b a.P) { v with worn := upd v.worn b (v.worn b + 1), lf := v.lf.set b 0 } sb' ∧ Keep (fun k => ¬ N k) H H' ∧
      WInv a (({ s with did := s.did + 1, worn := upd s.worn b (s.worn b + 1) } : Nd).clear b a.P) { v with worn := upd v.worn b (v.worn b + 1), lf := v.lf.set b 0 } ∧ Wf a (({ s with did := s.did + 1, worn := upd s.worn b (s.worn b + 1) } : Nd).clear b a.P) (D + 2) := by
  obtain ⟨eB, eP⟩ := h.eB
  have hsz := w.sz
  have hwb := hw b hb
  obtain ⟨H', sb', c1, c2, c3⟩ := write_Erase h w (by omega) (i := b) (by omega) (i.kind b hb).1 (by omega) (by omega)
  have he := erase_calm (v := v) i.cuts i.off hb (by omega) hd
  rw [hf] at he
  simp only [Bool.false_eq_true, if_false] at he
  rw [he] at c1 c2
  have wd := w.did
  have hww := w.worn
  refine ⟨H', sb', c1, c2, c3, i.erased hb hl3 _ _ _, ?_⟩
  have w1 : Wf a ({ s with did := s.did + 1, worn := upd s.worn b (s.worn b + 1) } : Nd) (D + 2) := ⟨by show 0 ≤ s.did + 1 ∧ s.did + 1 ≤ D + 2; omega, fun c => by
      have h1 := hww b
      have h2 := hww c
      show 0 ≤ upd s.worn b (s.worn b + 1) c ∧ upd s.worn b (s.worn b + 1) c ≤ D + 2
      unfold upd
      split <;> omega, w.cuts, w.fine, by omega, w.sz⟩
  exact w1.clear _ _
end
end Ev
