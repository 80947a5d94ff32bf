/- The writer: erasing; a block that fails. -/
import Derived.Test.YtloijdlakkmjgaaSWriteF
namespace Ev
open Go (IntKind)

section
variable {N : Nat → Prop} {H : Heap} {z : WrA} {a : NdA} {e : LfA} {s : Nd} {v : Wr} {sb : Sl} {D : Int}

def Wr.spoilt (v : Wr) (b : Nat) : Wr := ⟨v.lf.set b 3, v.worn, v.bad ++ [(b : Int)]⟩
theorem write_spoil (h : WrAt N H z a e s v sb) (w : Wf a s D) {b : Nat} (hb : b < e.B) (hl : v.bad.length < 1000000) :
    ∃ H' sb', write_Writer_spoil (some (z.w, 0)) (b : Int) H = some (((s.markT a (b : Int)).1, ()), H') ∧ WrAt N H' z a e (s.markT a (b : Int)).2 (v.spoilt b) sb' ∧ Keep (fun k => ¬ N k) H H' := by
  obtain ⟨H1, a1, a2, a3⟩ := life_Bad h.lf hb
  have h1 := h.life a2 a3
  obtain ⟨sb', H2, H3, b1, b2, b3, b4⟩ := h1.addB (b : Int) hl
  obtain ⟨H4, c1, c2, c3⟩ := nand_markT b3.nd w (b : Int)
  have h4 := b3.chip c2 c3
  refine ⟨H4, sb', ?_, h4, ((h.nl a3).trans b4).trans (b3.nc c3)⟩
  have hr : slRow (H1 ++ [.cells [.int .i64 (b : Int)] .exact]) 1 ⟨some (H1.length, 0), 1, 1⟩ = some [.int .i64 (b : Int)] := row_last rfl
  unfold write_Writer_spoil
  simp only [bind_some, Nat.zero_add, h.rl, a1, h1.rb, hr, b1, b2, b3.rc, c1]

/-- What erasing comes to. -/
def eraseW (a : NdA) (s : Nd) (v : Wr) (i : Nat) : Int × Nd × Wr :=
  if (s.eraseT a (i : Int)).1 = 0 then (0, (s.eraseT a (i : Int)).2, { v with worn := upd v.worn i (v.worn i + 1), lf := v.lf.set i 0 })
  else if (s.eraseT a (i : Int)).1 = 54 then (((s.eraseT a (i : Int)).2.markT a (i : Int)).1, ((s.eraseT a (i : Int)).2.markT a (i : Int)).2, v.spoilt i)
  else ((s.eraseT a (i : Int)).1, (s.eraseT a (i : Int)).2, v)
theorem write_Erase (h : WrAt N H z a e s v sb) (w : Wf a s D) (hD : D < 1000000) {i : Nat} (hi : i < e.B) (h0 : 0 ≤ v.lf.l i) (hl : v.bad.length < 1000000) (hw : -1 ≤ v.worn i ∧ v.worn i < 1000000) :
    ∃ H' sb', write_Writer_Erase (some (z.w, 0)) (i : Int) H = some (((eraseW a s v i).1, ()), H') ∧ WrAt N H' z a e (eraseW a s v i).2.1 (eraseW a s v i).2.2 sb' ∧ Keep (fun k => ¬ N k) H H' := by
  obtain ⟨H1, a1, a2, a3⟩ := nand_eraseT h.nd w (i : Int)
  have w1 := (w.eraseT hD (i : Int)).1
  have h1 := h.chip a2 a3
  unfold write_Writer_Erase eraseW
  simp only [Option.isNone_some, cond_f, bind_some, Nat.zero_add, h.rl, life_Is h.lf hi, decide_eq_false (show ¬ v.lf.l i < 0 by omega), h.rc, a1]
  generalize s.eraseT a (i : Int) = pr at *
  by_cases e0 : pr.1 = 0
  · obtain ⟨H2, b1, b2, b3⟩ := h1.wi hi (v.worn i + 1)
    obtain ⟨H3, c1, c2, c3⟩ := life_Free b2.lf hi
    rw [if_pos e0]
    refine ⟨H3, sb, ?_, b2.life c2 c3, ((h.nc a3).trans b3).trans (b2.nl c3)⟩
    have ew : IntKind.wrap .i64 (v.worn i + 1) = v.worn i + 1 := wrap_i64 (by omega) (by omega)
    simp only [decide_eq_true e0, cond_t, h1.rw', bind_some, WrAt.wat i hi, h1.ri hi, ew, b1, b2.rl, c1]
  · rw [if_neg e0]
    by_cases e54 : pr.1 = 54
    · obtain ⟨H2, sb', b1, b2, b3⟩ := write_spoil h1 w1 hi hl
      rw [if_pos e54]
      refine ⟨H2, sb', ?_, b2, (h.nc a3).trans b3⟩
      simp only [decide_eq_false e0, cond_f, decide_eq_true e54, cond_t, b1, bind_some]
    · rw [if_neg e54]
      refine ⟨H1, sb, ?_, h1, h.nc a3⟩
      simp only [decide_eq_false e0, cond_f, decide_eq_false e54]

theorem write_Life (h : WrAt N H z a e s v sb) : write_Writer_Life (some (z.w, 0)) H = some ((some (e.c, 0), ()), H) := by
  unfold write_Writer_Life
  simp only [Option.isNone_some, cond_f, bind_some, Nat.zero_add, h.rl]
theorem write_Bads (h : WrAt N H z a e s v sb) : ∃ H', write_Writer_Bads (some (z.w, 0)) H = some ((sb, ()), H') ∧ WrAt N H' z a e s { v with bad := [] } ⟨none, 0, 0⟩ ∧ Keep (fun k => k = z.w) H H' ∧ Row H' 1 sb (intC v.bad) := by
  have kp : Keep (fun k => k = z.w) H (H.set z.w (.cells ((wcells z a e sb).set 3 (.sl 1 ⟨none, 0, 0⟩)) .exact)) := Keep.set _ _ _ rfl
  obtain ⟨H', w1, w2, w3⟩ := h.nilB
  have hH : H' = H.set z.w (.cells ((wcells z a e sb).set 3 (.sl 1 ⟨none, 0, 0⟩)) .exact) := by
    have := wr1_of (o := 3) (c := .sl 1 ⟨none, 0, 0⟩) h.cell (by decide) (by simp [wcells])
    rw [w1] at this
    exact Option.some.inj this
  subst hH
  refine ⟨_, ?_, w2, kp, (Row.grown h.bads).keep kp fun b o hp hf => h.d3.2.1 o (by rw [← hf]; exact hp)⟩
  unfold write_Writer_Bads
  simp only [Option.isNone_some, cond_f, bind_some, Nat.zero_add, h.rb, w1]
theorem write_Worn (h : WrAt N H z a e s v sb) : ∃ t H', write_Writer_Worn (some (z.w, 0)) H = some ((t, ()), H') ∧ Row H' 1 t (arrC e.B v.row) ∧ Keep (fun _ => False) H H' ∧ t.len = e.B := by
  have hsz := h.lf.sz
  obtain ⟨bk, h1, h2⟩ := h.worn
  have hr : Row H 1 ⟨some (z.wb, 0), e.B, e.B⟩ (arrC e.B v.row) := ⟨by
    unfold slRow Heap.row
    simp only [h2, Nat.mul_one]
    rw [cut_all (by rw [arrC_length (wrow_len v)]; omega)], fun hh => by cases hh⟩
  obtain ⟨t, H', c1, c2, c3, c4, _⟩ := clone_int hr (by show e.B ≤ _; omega)
  refine ⟨t, H', ?_, c2, c3, c4⟩
  unfold write_Writer_Worn
  simp only [Option.isNone_some, cond_f, bind_some, Nat.zero_add, h.rw', c1]
end
end Ev
