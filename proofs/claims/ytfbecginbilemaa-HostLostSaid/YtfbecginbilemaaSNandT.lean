/- The chip: whatever is asked, in one statement for each function. -/
import Derived.Test.YtfbecginbilemaaSFine
namespace Ev
open Go (IntKind)

/-- What holds of a chip whatever is done: counts within D, fills are bytes, pages whole. -/
structure Wf (a : NdA) (s : Nd) (D : Int) : Prop where
  did : 0 ≤ s.did ∧ s.did ≤ D
  worn : ∀ b, 0 ≤ s.worn b ∧ s.worn b ≤ D
  cuts : ∀ x ∈ s.cuts, 0 ≤ x.2.2.1 ∧ x.2.2.1 < 256
  fine : Fine a s
  small : D ≤ 1000000
  sz : 1 ≤ a.B ∧ a.B ≤ 1000 ∧ 1 ≤ a.P ∧ a.P ≤ 1000 ∧ a.S ≤ 1000

def Nd.progT (a : NdA) (s : Nd) (b p : Int) (d sp : Bytes) : Int × Nd :=
  if s.inE a b p ≠ 0 then (s.inE a b p, s) else if d.length ≠ a.S ∨ sp.length ≠ 32 then (1, s) else if s.used a b.toNat p.toNat = true then (52, s) else s.program a b.toNat p.toNat (d ++ sp)
def Nd.eraseT (a : NdA) (s : Nd) (b : Int) : Int × Nd := if s.inE a b 0 ≠ 0 then (s.inE a b 0, s) else s.erase a b.toNat
def Nd.markT (a : NdA) (s : Nd) (b : Int) : Int × Nd := if s.inE a b 0 ≠ 0 then (s.inE a b 0, s) else s.domark b.toNat
def Nd.readT (a : NdA) (s : Nd) (b p : Int) : Bytes × Bytes × Int × Unit := if s.inE a b p ≠ 0 then ([], [], s.inE a b p, ()) else ((s.read a b.toNat p.toNat).take a.S, (s.read a b.toNat p.toNat).drop a.S, 0, ())
def Nd.markedT (a : NdA) (s : Nd) (b : Int) : Bool × Int × Unit := if s.inE a b 0 ≠ 0 then (false, s.inE a b 0, ()) else (s.mark b.toNat, 0, ())

theorem in_zero {a : NdA} {s : Nd} {b p : Int} (h : s.inE a b p = 0) : s.off = false ∧ ∃ i q : Nat, b = (i : Int) ∧ p = (q : Int) ∧ i < a.B ∧ q < a.P := by
  unfold Nd.inE at h
  split at h
  · exact absurd h (by decide)
  · rename_i ho
    split at h
    · exact absurd h (by decide)
    · rename_i hb
      refine ⟨by simpa using ho, b.toNat, p.toNat, by omega, by omega, by omega, by omega⟩

section
variable {H : Heap} {a : NdA} {s : Nd} {D : Int}

theorem nand_programT (h : NdAt H a s) (w : Wf a s D) (b p : Int) (d sp : Bytes) : ∃ H', nand_Chip_Program (some (a.c, 0)) b p d sp H = some (((s.progT a b p d sp).1, ()), H') ∧ NdAt H' a (s.progT a b p d sp).2 ∧ Keep a.fp H H' := by
  have hdd := w.did
  have hsm := w.small
  unfold Nd.progT
  by_cases he : s.inE a b p = 0
  · rw [if_neg (by simpa using he)]
    obtain ⟨ho, i, q, rfl, rfl, hi, hq⟩ := in_zero he
    by_cases hl : d.length ≠ a.S ∨ sp.length ≠ 32
    · rw [if_pos hl]
      exact ⟨H, prog_len h he hl, h, Keep.refl _ _⟩
    · rw [if_neg hl]
      have h1 : d.length = a.S := by omega
      have h2 : sp.length = 32 := by omega
      rw [Int.toNat_natCast, Int.toNat_natCast]
      cases hu : s.used a i q with
      | true => exact ⟨H, prog_used h ho hi hq h1 h2 hu, h, Keep.refl _ _⟩
      | false =>
        simp only [Bool.false_eq_true, if_false]
        exact nand_program h (by omega) w.cuts ho hi hq h1 h2 hu
  · rw [if_pos he]
    exact ⟨H, prog_refused h he d sp, h, Keep.refl _ _⟩
theorem nand_eraseT (h : NdAt H a s) (w : Wf a s D) (b : Int) : ∃ H', nand_Chip_Erase (some (a.c, 0)) b H = some (((s.eraseT a b).1, ()), H') ∧ NdAt H' a (s.eraseT a b).2 ∧ Keep a.fp H H' := by
  have hdd := w.did
  have hsm := w.small
  unfold Nd.eraseT
  by_cases he : s.inE a b 0 = 0
  · rw [if_neg (by simpa using he)]
    obtain ⟨ho, i, q, rfl, _, hi, hq⟩ := in_zero he
    have hww := w.worn i
    rw [Int.toNat_natCast]
    exact nand_erase h (by omega) w.cuts ho hi (by omega) (by omega)
  · rw [if_pos he]
    exact ⟨H, erase_refused h he, h, Keep.refl _ _⟩
theorem nand_markT (h : NdAt H a s) (w : Wf a s D) (b : Int) : ∃ H', nand_Chip_Mark (some (a.c, 0)) b H = some (((s.markT a b).1, ()), H') ∧ NdAt H' a (s.markT a b).2 ∧ Keep a.fp H H' := by
  have hdd := w.did
  have hsm := w.small
  unfold Nd.markT
  by_cases he : s.inE a b 0 = 0
  · rw [if_neg (by simpa using he)]
    obtain ⟨ho, i, q, rfl, _, hi, hq⟩ := in_zero he
    rw [Int.toNat_natCast]
    exact nand_mark h (by omega) ho hi (by omega)
  · rw [if_pos he]
    exact ⟨H, mark_refused h he, h, Keep.refl _ _⟩
theorem nand_readT (h : NdAt H a s) (w : Wf a s D) (b p : Int) : ∃ H', nand_Chip_Read (some (a.c, 0)) b p H = some (s.readT a b p, H') ∧ NdAt H' a s ∧ Keep (fun _ => False) H H' := by
  unfold Nd.readT
  by_cases he : s.inE a b p = 0
  · rw [if_neg (by simpa using he)]
    obtain ⟨ho, i, q, rfl, rfl, hi, hq⟩ := in_zero he
    rw [Int.toNat_natCast, Int.toNat_natCast]
    have hf : s.pages i q = [] ∨ (s.pages i q).length = a.S + 32 := by
      rcases w.fine i q with h | h
      · exact .inl h
      · exact .inr h.1
    exact nand_read h ho hi hq hf
  · rw [if_pos he]
    exact ⟨H, read_refused h he, h, Keep.refl _ _⟩
theorem nand_markedT (h : NdAt H a s) (b : Int) : nand_Chip_Marked (some (a.c, 0)) b H = some (s.markedT a b, H) := by
  unfold Nd.markedT
  by_cases he : s.inE a b 0 = 0
  · rw [if_neg (by simpa using he)]
    obtain ⟨ho, i, q, rfl, _, hi, hq⟩ := in_zero he
    rw [Int.toNat_natCast]
    exact nand_marked h ho hi (by omega)
  · rw [if_pos he]
    exact marked_refused h he

theorem Wf.acted (w : Wf a s D) (hD : D < 1000000) : Wf a s.acted (D + 1) := ⟨by have := w.did; show 0 ≤ s.did + 1 ∧ s.did + 1 ≤ D + 1; omega, fun b => by have := w.worn b; show 0 ≤ s.worn b ∧ s.worn b ≤ D + 1; omega, w.cuts, w.fine, by omega, w.sz⟩
theorem Wf.le (w : Wf a s D) {D' : Int} (h : D ≤ D') (h2 : D' ≤ 1000000) : Wf a s D' := ⟨by have := w.did; omega, fun b => by have := w.worn b; omega, w.cuts, w.fine, h2, w.sz⟩
theorem Wf.lay (w : Wf a s D) {b p : Nat} {t : Bytes} (ht : t.length = a.S + 32) : Wf a (s.lay a b p t) D := ⟨w.did, w.worn, w.cuts, w.fine.lay ht, w.small, w.sz⟩
theorem Wf.clear (w : Wf a s D) (b n : Nat) : Wf a (s.clear b n) D := ⟨w.did, w.worn, w.cuts, w.fine.clear b n, w.small, w.sz⟩
theorem Wf.progT (w : Wf a s D) (hD : D < 1000000) (b p : Int) (d sp : Bytes) : Wf a (s.progT a b p d sp).2 (D + 1) ∧ (s.progT a b p d sp).2.did ≤ s.did + 1 ∧ s.did ≤ (s.progT a b p d sp).2.did := by
  unfold Nd.progT
  split
  · exact ⟨w.le (by omega) (by omega), by simp only; omega, Int.le_refl _⟩
  · split
    · exact ⟨w.le (by omega) (by omega), by simp only; omega, Int.le_refl _⟩
    · rename_i hl
      have hl2 : (d ++ sp).length = a.S + 32 := by rw [List.length_append]; omega
      split
      · exact ⟨w.le (by omega) (by omega), by simp only; omega, Int.le_refl _⟩
      · have wa := w.acted hD
        unfold Nd.program
        split
        · exact ⟨wa.lay (by rw [tornB_length]; exact hl2), Int.le_refl _, by show s.did ≤ s.did + 1; omega⟩
        · split
          · exact ⟨(show Wf a { s.acted with dead := upd s.dead b.toNat true } (D + 1) from ⟨wa.did, wa.worn, wa.cuts, wa.fine, wa.small, wa.sz⟩).lay (by rw [List.length_replicate]; exact hl2), Int.le_refl _, by show s.did ≤ s.did + 1; omega⟩
          · exact ⟨wa.lay hl2, Int.le_refl _, by show s.did ≤ s.did + 1; omega⟩
theorem Wf.eraseT (w : Wf a s D) (hD : D < 1000000) (b : Int) : Wf a (s.eraseT a b).2 (D + 1) ∧ (s.eraseT a b).2.did ≤ s.did + 1 ∧ s.did ≤ (s.eraseT a b).2.did := by
  unfold Nd.eraseT
  split
  · exact ⟨w.le (by omega) (by omega), by simp only; omega, Int.le_refl _⟩
  · have wa := w.acted hD
    have wb : Wf a { s.acted with worn := upd s.worn b.toNat (s.worn b.toNat + 1) } (D + 1) := ⟨wa.did, fun c => by
      have h1 := w.worn b.toNat
      have h2 := w.worn c
      show 0 ≤ upd s.worn b.toNat (s.worn b.toNat + 1) c ∧ upd s.worn b.toNat (s.worn b.toNat + 1) c ≤ D + 1
      unfold upd
      split <;> omega, wa.cuts, wa.fine, wa.small, wa.sz⟩
    unfold Nd.erase
    split
    · simp only
      split
      · exact ⟨(wb.clear _ _).lay (by simp), Int.le_refl _, by show s.did ≤ s.did + 1; omega⟩
      · exact ⟨wb.clear _ _, Int.le_refl _, by show s.did ≤ s.did + 1; omega⟩
    · split
      · exact ⟨⟨wb.did, wb.worn, wb.cuts, wb.fine, wb.small, wb.sz⟩, Int.le_refl _, by show s.did ≤ s.did + 1; omega⟩
      · exact ⟨wb.clear _ _, Int.le_refl _, by show s.did ≤ s.did + 1; omega⟩
theorem Wf.markT (w : Wf a s D) (hD : D < 1000000) (b : Int) : Wf a (s.markT a b).2 (D + 1) ∧ (s.markT a b).2.did ≤ s.did + 1 ∧ s.did ≤ (s.markT a b).2.did := by
  unfold Nd.markT
  split
  · exact ⟨w.le (by omega) (by omega), by simp only; omega, Int.le_refl _⟩
  · have wa := w.acted hD
    unfold Nd.domark
    split
    · simp only
      split
      · exact ⟨⟨wa.did, wa.worn, wa.cuts, wa.fine, wa.small, wa.sz⟩, Int.le_refl _, by show s.did ≤ s.did + 1; omega⟩
      · exact ⟨wa, Int.le_refl _, by show s.did ≤ s.did + 1; omega⟩
    · exact ⟨⟨wa.did, wa.worn, wa.cuts, wa.fine, wa.small, wa.sz⟩, Int.le_refl _, by show s.did ≤ s.did + 1; omega⟩
theorem readT_length (w : Wf a s D) (b p : Int) : (s.readT a b p).1.length + (s.readT a b p).2.1.length ≤ 2000 := by
  have := w.sz
  unfold Nd.readT
  split
  · simp
  · have := w.fine.read b.toNat p.toNat
    simp only [List.length_take, List.length_drop]; omega
end
end Ev
