/- SNandT SCrc SPage SPv SWrite -/
import Derived.Test.YtloijdlakkmjgaaKC4
import Derived.Test.YtloijdlakkmjgaaGCrc
import Derived.Test.YtloijdlakkmjgaaKC1
import Derived.Test.YtloijdlakkmjgaaKC3
import Derived.Test.YtloijdlakkmjgaaGPage
import Derived.Test.YtloijdlakkmjgaaGWrite
import Derived.Test.YtloijdlakkmjgaaGWear
/- The chip: whatever is asked, in one statement for each function. -/
namespace Ev
open Go (IntKind)

/-- What holds of a chip whatever is done: counts within D, fills are bytes, pages whole. -/
structure Wf (a : NdA) (s : Nd) (D : Int) : Prop where
  did : 0 ≤ s.did ∧ s.did ≤ D
  worn : ∀ b, 0 ≤ s.worn b ∧ s.worn b ≤ D
  cuts : ∀ x ∈ s.cuts, 0 ≤ x.2.2.1 ∧ x.2.2.1 < 256
  fine : Fine a s
  small : D ≤ 1000000
  sz : 1 ≤ a.B ∧ a.B ≤ 1000 ∧ 1 ≤ a.P ∧ a.P ≤ 1000 ∧ a.S ≤ 1000

def Nd.progT (a : NdA) (s : Nd) (b p : Int) (d sp : Bytes) : Int × Nd :=
  if s.inE a b p ≠ 0 then (s.inE a b p, s) else if d.length ≠ a.S ∨ sp.length ≠ 32 then (1, s) else if s.used a b.toNat p.toNat = true then (52, s) else s.program a b.toNat p.toNat (d ++ sp)
def Nd.eraseT (a : NdA) (s : Nd) (b : Int) : Int × Nd := if s.inE a b 0 ≠ 0 then (s.inE a b 0, s) else s.erase a b.toNat
def Nd.markT (a : NdA) (s : Nd) (b : Int) : Int × Nd := if s.inE a b 0 ≠ 0 then (s.inE a b 0, s) else s.domark b.toNat
def Nd.readT (a : NdA) (s : Nd) (b p : Int) : Bytes × Bytes × Int × Unit := if s.inE a b p ≠ 0 then ([], [], s.inE a b p, ()) else ((s.read a b.toNat p.toNat).take a.S, (s.read a b.toNat p.toNat).drop a.S, 0, ())
def Nd.markedT (a : NdA) (s : Nd) (b : Int) : Bool × Int × Unit := if s.inE a b 0 ≠ 0 then (false, s.inE a b 0, ()) else (s.mark b.toNat, 0, ())

theorem in_zero {a : NdA} {s : Nd} {b p : Int} (h : s.inE a b p = 0) : s.off = false ∧ ∃ i q : Nat, b = (i : Int) ∧ p = (q : Int) ∧ i < a.B ∧ q < a.P := by
  unfold Nd.inE at h
  split at h
  · exact absurd h (by decide)
  · rename_i ho
    split at h
    · exact absurd h (by decide)
    · rename_i hb
      refine ⟨by simpa using ho, b.toNat, p.toNat, by omega, by omega, by omega, by omega⟩

section
variable {H : Heap} {a : NdA} {s : Nd} {D : Int}

theorem nand_programT (h : NdAt H a s) (w : Wf a s D) (b p : Int) (d sp : Bytes) : ∃ H', nand_Chip_Program (some (a.c, 0)) b p d sp H = some (((s.progT a b p d sp).1, ()), H') ∧ NdAt H' a (s.progT a b p d sp).2 ∧ Keep a.fp H H' := by
  have hdd := w.did
  have hsm := w.small
  unfold Nd.progT
  by_cases he : s.inE a b p = 0
  · rw [if_neg (by simpa using he)]
    obtain ⟨ho, i, q, rfl, rfl, hi, hq⟩ := in_zero he
    by_cases hl : d.length ≠ a.S ∨ sp.length ≠ 32
    · rw [if_pos hl]
      exact ⟨H, prog_len h he hl, h, Keep.refl _ _⟩
    · rw [if_neg hl]
      have h1 : d.length = a.S := by omega
      have h2 : sp.length = 32 := by omega
      rw [Int.toNat_natCast, Int.toNat_natCast]
      cases hu : s.used a i q with
      | true => exact ⟨H, prog_used h ho hi hq h1 h2 hu, h, Keep.refl _ _⟩
      | false =>
        simp only [Bool.false_eq_true, if_false]
        exact nand_program h (by omega) w.cuts ho hi hq h1 h2 hu
  · rw [if_pos he]
    exact ⟨H, prog_refused h he d sp, h, Keep.refl _ _⟩
theorem nand_eraseT (h : NdAt H a s) (w : Wf a s D) (b : Int) : ∃ H', nand_Chip_Erase (some (a.c, 0)) b H = some (((s.eraseT a b).1, ()), H') ∧ NdAt H' a (s.eraseT a b).2 ∧ Keep a.fp H H' := by
  have hdd := w.did
  have hsm := w.small
  unfold Nd.eraseT
  by_cases he : s.inE a b 0 = 0
  · rw [if_neg (by simpa using he)]
    obtain ⟨ho, i, q, rfl, _, hi, hq⟩ := in_zero he
    have hww := w.worn i
    rw [Int.toNat_natCast]
    exact nand_erase h (by omega) w.cuts ho hi (by omega) (by omega)
  · rw [if_pos he]
    exact ⟨H, erase_refused h he, h, Keep.refl _ _⟩
theorem nand_markT (h : NdAt H a s) (w : Wf a s D) (b : Int) : ∃ H', nand_Chip_Mark (some (a.c, 0)) b H = some (((s.markT a b).1, ()), H') ∧ NdAt H' a (s.markT a b).2 ∧ Keep a.fp H H' := by
  have hdd := w.did
  have hsm := w.small
  unfold Nd.markT
  by_cases he : s.inE a b 0 = 0
  · rw [if_neg (by simpa using he)]
    obtain ⟨ho, i, q, rfl, _, hi, hq⟩ := in_zero he
    rw [Int.toNat_natCast]
    exact nand_mark h (by omega) ho hi (by omega)
  · rw [if_pos he]
    exact ⟨H, mark_refused h he, h, Keep.refl _ _⟩
theorem nand_readT (h : NdAt H a s) (w : Wf a s D) (b p : Int) : ∃ H', nand_Chip_Read (some (a.c, 0)) b p H = some (s.readT a b p, H') ∧ NdAt H' a s ∧ Keep (fun _ => False) H H' := by
  unfold Nd.readT
  by_cases he : s.inE a b p = 0
  · rw [if_neg (by simpa using he)]
    obtain ⟨ho, i, q, rfl, rfl, hi, hq⟩ := in_zero he
    rw [Int.toNat_natCast, Int.toNat_natCast]
    have hf : s.pages i q = [] ∨ (s.pages i q).length = a.S + 32 := by
      rcases w.fine i q with h | h
      · exact .inl h
      · exact .inr h.1
    exact nand_read h ho hi hq hf
  · rw [if_pos he]
    exact ⟨H, read_refused h he, h, Keep.refl _ _⟩
theorem nand_markedT (h : NdAt H a s) (b : Int) : nand_Chip_Marked (some (a.c, 0)) b H = some (s.markedT a b, H) := by
  unfold Nd.markedT
  by_cases he : s.inE a b 0 = 0
  · rw [if_neg (by simpa using he)]
    obtain ⟨ho, i, q, rfl, _, hi, hq⟩ := in_zero he
    rw [Int.toNat_natCast]
    exact nand_marked h ho hi (by omega)
  · rw [if_pos he]
    exact marked_refused h he

theorem Wf.acted (w : Wf a s D) (hD : D < 1000000) : Wf a s.acted (D + 1) := ⟨by have := w.did; show 0 ≤ s.did + 1 ∧ s.did + 1 ≤ D + 1; omega, fun b => by have := w.worn b; show 0 ≤ s.worn b ∧ s.worn b ≤ D + 1; omega, w.cuts, w.fine, by omega, w.sz⟩
theorem Wf.le (w : Wf a s D) {D' : Int} (h : D ≤ D') (h2 : D' ≤ 1000000) : Wf a s D' := ⟨by have := w.did; omega, fun b => by have := w.worn b; omega, w.cuts, w.fine, h2, w.sz⟩
theorem Wf.lay (w : Wf a s D) {b p : Nat} {t : Bytes} (ht : t.length = a.S + 32) : Wf a (s.lay a b p t) D := ⟨w.did, w.worn, w.cuts, w.fine.lay ht, w.small, w.sz⟩
theorem Wf.clear (w : Wf a s D) (b n : Nat) : Wf a (s.clear b n) D := ⟨w.did, w.worn, w.cuts, w.fine.clear b n, w.small, w.sz⟩
theorem Wf.progT (w : Wf a s D) (hD : D < 1000000) (b p : Int) (d sp : Bytes) : Wf a (s.progT a b p d sp).2 (D + 1) ∧ (s.progT a b p d sp).2.did ≤ s.did + 1 ∧ s.did ≤ (s.progT a b p d sp).2.did := by
  unfold Nd.progT
  split
  · exact ⟨w.le (by omega) (by omega), by simp only; omega, Int.le_refl _⟩
  · split
    · exact ⟨w.le (by omega) (by omega), by simp only; omega, Int.le_refl _⟩
    · rename_i hl
      have hl2 : (d ++ sp).length = a.S + 32 := by rw [List.length_append]; omega
      split
      · exact ⟨w.le (by omega) (by omega), by simp only; omega, Int.le_refl _⟩
      · have wa := w.acted hD
        unfold Nd.program
        split
        · exact ⟨wa.lay (by rw [tornB_length]; exact hl2), Int.le_refl _, by show s.did ≤ s.did + 1; omega⟩
        · split
          · exact ⟨(show Wf a { s.acted with dead := upd s.dead b.toNat true } (D + 1) from ⟨wa.did, wa.worn, wa.cuts, wa.fine, wa.small, wa.sz⟩).lay (by rw [List.length_replicate]; exact hl2), Int.le_refl _, by show s.did ≤ s.did + 1; omega⟩
          · exact ⟨wa.lay hl2, Int.le_refl _, by show s.did ≤ s.did + 1; omega⟩
theorem Wf.eraseT (w : Wf a s D) (hD : D < 1000000) (b : Int) : Wf a (s.eraseT a b).2 (D + 1) ∧ (s.eraseT a b).2.did ≤ s.did + 1 ∧ s.did ≤ (s.eraseT a b).2.did := by
  unfold Nd.eraseT
  split
  · exact ⟨w.le (by omega) (by omega), by simp only; omega, Int.le_refl _⟩
  · have wa := w.acted hD
    have wb : Wf a { s.acted with worn := upd s.worn b.toNat (s.worn b.toNat + 1) } (D + 1) := ⟨wa.did, fun c => by
      have h1 := w.worn b.toNat
      have h2 := w.worn c
      show 0 ≤ upd s.worn b.toNat (s.worn b.toNat + 1) c ∧ upd s.worn b.toNat (s.worn b.toNat + 1) c ≤ D + 1
      unfold upd
      split <;> omega, wa.cuts, wa.fine, wa.small, wa.sz⟩
    unfold Nd.erase
    split
    · simp only
      split
      · exact ⟨(wb.clear _ _).lay (by simp), Int.le_refl _, by show s.did ≤ s.did + 1; omega⟩
      · exact ⟨wb.clear _ _, Int.le_refl _, by show s.did ≤ s.did + 1; omega⟩
    · split
      · exact ⟨⟨wb.did, wb.worn, wb.cuts, wb.fine, wb.small, wb.sz⟩, Int.le_refl _, by show s.did ≤ s.did + 1; omega⟩
      · exact ⟨wb.clear _ _, Int.le_refl _, by show s.did ≤ s.did + 1; omega⟩
theorem Wf.markT (w : Wf a s D) (hD : D < 1000000) (b : Int) : Wf a (s.markT a b).2 (D + 1) ∧ (s.markT a b).2.did ≤ s.did + 1 ∧ s.did ≤ (s.markT a b).2.did := by
  unfold Nd.markT
  split
  · exact ⟨w.le (by omega) (by omega), by simp only; omega, Int.le_refl _⟩
  · have wa := w.acted hD
    unfold Nd.domark
    split
    · simp only
      split
      · exact ⟨⟨wa.did, wa.worn, wa.cuts, wa.fine, wa.small, wa.sz⟩, Int.le_refl _, by show s.did ≤ s.did + 1; omega⟩
      · exact ⟨wa, Int.le_refl _, by show s.did ≤ s.did + 1; omega⟩
    · exact ⟨⟨wa.did, wa.worn, wa.cuts, wa.fine, wa.small, wa.sz⟩, Int.le_refl _, by show s.did ≤ s.did + 1; omega⟩
theorem readT_length (w : Wf a s D) (b p : Int) : (s.readT a b p).1.length + (s.readT a b p).2.1.length ≤ 2000 := by
  have := w.sz
  unfold Nd.readT
  split
  · simp
  · have := w.fine.read b.toNat p.toNat
    simp only [List.length_take, List.length_drop]; omega
end
end Ev

/- crc.More and crc.Sum tell the check of bytes. -/
namespace Ev
open Go (IntKind)

def nats (s : Bytes) : List Nat := s.map UInt8.toNat
theorem nats_length (s : Bytes) : (nats s).length = s.length := by simp [nats]
theorem nats_lt {s : Bytes} : ∀ b ∈ nats s, b < 256 := by
  intro b hb
  obtain ⟨x, _, rfl⟩ := List.mem_map.1 hb
  exact x.toNat_lt
theorem nats_append (a b : Bytes) : nats (a ++ b) = nats a ++ nats b := by simp [nats]

/-- The check of bytes behind others, of which it is c. -/
def crcMore (c : Nat) (s : Bytes) : Nat := crun (4294967295 ^^^ c) (nats s) ^^^ 4294967295
theorem crcMore_lt {c : Nat} {s : Bytes} (h : c < 4294967296) : crcMore c s < 4294967296 := xor_lt32 (crun_lt (xor_lt32 (by decide) h) nats_lt) (by decide)
theorem crun_append (c : Nat) (a b : List Nat) : crun c (a ++ b) = crun (crun c a) b := by simp [crun, List.foldl_append]
theorem crcMore_app (a b : Bytes) : crcMore (crcMore 0 a) b = crcMore 0 (a ++ b) := by
  unfold crcMore
  rw [nats_append, crun_append, Nat.xor_zero, Nat.xor_comm (crun _ (nats a)), ← Nat.xor_assoc, Nat.xor_self, Nat.zero_xor]

theorem cbits_snoc : ∀ (n c : Nat), cbits (n + 1) c = cbit (cbits n c)
  | 0, _ => rfl
  | n + 1, c => by show cbits (n + 1) (cbit c) = _; rw [cbits_snoc n]; rfl

theorem crc_bits (c : Nat) (hc : c < 4294967296) (H : Heap) : loopW crc_More.s1 ((c : Int), 0, ()) H = some ((((cbits 8 c : Nat) : Int), ()), H) := by
  refine loop_for' 8 (fun i => (((cbits i c : Nat) : Int), (i : Int), ())) (fun _ => H) rfl rfl ?_ ?_
  · intro i hi
    have hlt : cbits i c < 4294967296 := cbits_lt hc
    unfold crc_More.s1
    have h8 : decide ((i : Int) < 8) = true := decide_eq_true (by omega)
    have ha : bitsI .and .u32 ((cbits i c : Nat) : Int) 1 = ((cbits i c % 2 : Nat) : Int) := by
      rw [show (1 : Int) = ((1 : Nat) : Int) from rfl, and32 hlt (by decide), Nat.and_one_is_mod]
    have hs : Int.fdiv ((cbits i c : Nat) : Int) (2 ^ (min (Int.toNat 1) (IntKind.bits .u32))) = ((cbits i c / 2 : Nat) : Int) := by
      rw [show min (Int.toNat 1) (IntKind.bits .u32) = 1 from rfl, shr_nat, Nat.shiftRight_eq_div_pow]
    simp only [h8, cond_t, ha, hs, wrap_succ (show i < 9223372036854775807 by omega), cbits_snoc]
    unfold cbit
    by_cases hm : cbits i c % 2 = 1
    · rw [if_pos hm, decide_eq_true (by omega), cond_t, show (2197175160 : Int) = ((2197175160 : Nat) : Int) from rfl, xor32 (by omega) (by decide)]
    · rw [if_neg hm, decide_eq_false (by omega), cond_f]
  · unfold crc_More.s1
    rfl

theorem crc_More_eq (c : Nat) (s : Bytes) (hc : c < 4294967296) (hs : s.length < 9223372036854775807) : crc_More (c : Int) s = some (((crcMore c s : Nat) : Int), ()) := by
  unfold crc_More crc_More.on
  rw [show (4294967295 : Int) = ((4294967295 : Nat) : Int) from rfl, xor32 (by decide) hc]
  have h0 : 4294967295 ^^^ c < 4294967296 := xor_lt32 (by decide) hc
  have hl : loopW (crc_More.s2 s) (((4294967295 ^^^ c : Nat) : Int), 0, ()) [] = some ((((crun (4294967295 ^^^ c) (nats s) : Nat) : Int), ()), []) := by
    refine loop_for' s.length (fun i => (((crun (4294967295 ^^^ c) ((nats s).take i) : Nat) : Int), (i : Int), ())) (fun _ => []) rfl rfl ?_ ?_
    · intro i hi
      have hlt : crun (4294967295 ^^^ c) ((nats s).take i) < 4294967296 := crun_lt h0 fun b hb => nats_lt b (List.mem_of_mem_take hb)
      have hb := s[i].toNat_lt
      unfold crc_More.s2
      have hd : decide ((i : Int) < (s.length : Int)) = true := decide_eq_true (by omega)
      have hw : IntKind.wrap .u32 ((s[i].toNat : Nat) : Int) = ((s[i].toNat : Nat) : Int) := by rw [wrap_u32]; omega
      simp only [hd, cond_t, idx_of hi, bind_some, hw, xor32 hlt (show s[i].toNat < 4294967296 by omega), crc_bits _ (xor_lt32 hlt (show s[i].toNat < 4294967296 by omega)), wrap_succ (show i < 9223372036854775807 by omega)]
      rw [List.take_add_one, List.getElem?_eq_getElem (by rw [nats_length]; exact hi), crun_append]
      simp [nats, crun, cbyte]
    · unfold crc_More.s2
      have hd : decide ((s.length : Int) < (s.length : Int)) = false := decide_eq_false (by omega)
      simp only [hd, cond_f]
      rw [List.take_of_length_le (by rw [nats_length]; exact Nat.le_refl _)]
  rw [hl, bind_some, xor32 (crun_lt h0 nats_lt) (by decide)]
  rfl

theorem crc_Sum_eq (s : Bytes) (hs : s.length < 9223372036854775807) : crc_Sum s = some (((crcMore 0 s : Nat) : Int), ()) := by
  unfold crc_Sum crc_Sum.on
  rw [show (0 : Int) = ((0 : Nat) : Int) from rfl, crc_More_eq 0 s (by decide) hs]; rfl

end Ev

/- Pages as bytes: page.Check, Frame and Look, in plain Lean. -/
namespace Ev
open Go (IntKind)

abbrev Tg := Int × Int × Int × Int × Int × Unit
def tag0 : Tg := (0, 0, 0, 0, 0, ())
def tagOK (t : Tg) : Bool := decide (1 ≤ t.1 ∧ t.1 ≤ 3 ∧ 1 ≤ t.2.2.2.1 ∧ t.2.2.2.1 < 65536 ∧ 0 ≤ t.2.2.1 ∧ t.2.2.1 < t.2.2.2.1 ∧ 0 ≤ t.2.2.2.2.1 ∧ t.2.2.2.2.1 < 4294967296)
def zerosB (n : Nat) : Bytes := List.replicate n 0
def rowOf (t : Tg) (n : Nat) : Bytes := leB 1 t.1.toNat ++ leB 8 t.2.1.toNat ++ leB 2 t.2.2.1.toNat ++ leB 2 t.2.2.2.1.toNat ++ leB 4 t.2.2.2.2.1.toNat ++ leB 2 n ++ zerosB 9
def dataOf (s : Bytes) (size : Nat) : Bytes := s ++ zerosB (size - s.length)
def spareOf (t : Tg) (s : Bytes) (size : Nat) : Bytes := rowOf t s.length ++ leB 4 (crcMore 0 (dataOf s size ++ rowOf t s.length))

theorem rowOf_length (t : Tg) (n : Nat) : (rowOf t n).length = 28 := by simp [rowOf, leB_length, zerosB]
theorem dataOf_length {s : Bytes} {size : Nat} (h : s.length ≤ size) : (dataOf s size).length = size := by simp [dataOf, zerosB]; omega
theorem spareOf_length (t : Tg) (s : Bytes) (size : Nat) : (spareOf t s size).length = 32 := by simp [spareOf, rowOf_length, leB_length]

theorem page_Check_eq (t : Tg) : page_Check t = some (tagOK t, ()) := by
  obtain ⟨k, q, i, o, w, u⟩ := t
  have r0 : ∀ a b c d e, rdI .i64 [Blk.cells [.int .i64 a, .int .u64 b, .int .i64 c, .int .i64 d, .int .i64 e] .exact] 0 0 = some a := fun _ _ _ _ _ => rfl
  have r2 : ∀ a b c d e, rdI .i64 [Blk.cells [.int .i64 a, .int .u64 b, .int .i64 c, .int .i64 d, .int .i64 e] .exact] 0 2 = some c := fun _ _ _ _ _ => rfl
  have r3 : ∀ a b c d e, rdI .i64 [Blk.cells [.int .i64 a, .int .u64 b, .int .i64 c, .int .i64 d, .int .i64 e] .exact] 0 3 = some d := fun _ _ _ _ _ => rfl
  have r4 : ∀ a b c d e, rdI .i64 [Blk.cells [.int .i64 a, .int .u64 b, .int .i64 c, .int .i64 d, .int .i64 e] .exact] 0 4 = some e := fun _ _ _ _ _ => rfl
  unfold page_Check page_Check.on tagOK
  simp only [List.nil_append, List.length_nil, r0, r2, r3, r4, bind_some]
  by_cases h1 : 1 ≤ k
  · by_cases h2 : k ≤ 3
    · by_cases h3 : 1 ≤ o
      · by_cases h4 : o < 65536
        · by_cases h5 : 0 ≤ i
          · by_cases h6 : i < o
            · by_cases h7 : 0 ≤ w
              · by_cases h8 : w < 4294967296 <;> simp [h1, h2, h3, h4, h5, h6, h7, h8]
              · simp [h1, h2, h3, h4, h5, h6, h7]
            · simp [h1, h2, h3, h4, h5, h6]
          · simp [h1, h2, h3, h4, h5]
        · simp [h1, h2, h3, h4]
      · simp [h1, h2, h3]
    · simp [h1, h2]
  · simp [h1]

theorem rd_tag {H : Heap} {b : Nat} {a c d e f : Int} {bk : BK} (h : H[b]? = some (.cells [.int .i64 a, .int .u64 c, .int .i64 d, .int .i64 e, .int .i64 f] bk)) :
    @Eq (Option Tg) (rd H (.agg [.int .i64, .int .u64, .int .i64, .int .i64, .int .i64]) b 0) (some (a, c, d, e, f, ())) := by
  simp only [rd, Heap.row, h]; rfl

theorem wrap64_nat {n : Nat} (h : n < 18446744073709551616) : IntKind.wrap .u64 (n : Int) = (n : Int) := by rw [wrap_u64]; omega
theorem wrap64_int {n : Int} (h0 : 0 ≤ n) (h : n < 18446744073709551616) : IntKind.wrap .u64 n = ((n.toNat : Nat) : Int) := by rw [wrap_u64]; omega

theorem page_Frame_no {t : Tg} {s : Bytes} {size : Int} (h : tagOK t = false ∨ size < 0 ∨ 65536 ≤ size ∨ size < s.length) : page_Frame t s size = some ([], [], 1, ()) := by
  obtain ⟨k, q, i, o, w, u⟩ := t
  unfold page_Frame page_Frame.on
  simp only [List.nil_append, List.length_nil]
  rw [rd_tag (H := [Blk.cells [.int .i64 k, .int .u64 q, .int .i64 i, .int .i64 o, .int .i64 w] .exact]) (b := 0) rfl]
  simp only [bind_some, page_Check_eq]
  cases h1 : tagOK (k, q, i, o, w, ()) with
  | false => rfl
  | true =>
    by_cases h2 : size < 0
    · simp [h2]
    · by_cases h3 : 65536 ≤ size
      · simp [h2, h3]
      · by_cases h4 : size < s.length
        · simp [h2, h3, h4]
        · exfalso
          rcases h with h | h | h | h
          · have : tagOK (k, q, i, o, w, u) = tagOK (k, q, i, o, w, ()) := rfl
            rw [this, h1] at h; cases h
          · exact h2 h
          · exact h3 h
          · exact h4 h

theorem page_Frame_yes {t : Tg} {s : Bytes} {size : Nat} (h1 : tagOK t = true) (hq : 0 ≤ t.2.1 ∧ t.2.1 < 18446744073709551616) (h3 : size < 65536) (h4 : s.length ≤ size) : page_Frame t s (size : Int) = some (dataOf s size, spareOf t s size, 0, ()) := by
  obtain ⟨k, q, i, o, w, u⟩ := t
  have ht := of_decide_eq_true h1
  simp only at ht hq
  unfold page_Frame page_Frame.on
  simp only [List.nil_append, List.length_nil]
  rw [rd_tag (H := [Blk.cells [.int .i64 k, .int .u64 q, .int .i64 i, .int .i64 o, .int .i64 w] .exact]) (b := 0) rfl]
  have r0 : ∀ a b c d e, rdI .i64 [Blk.cells [.int .i64 a, .int .u64 b, .int .i64 c, .int .i64 d, .int .i64 e] .exact] 0 0 = some a := fun _ _ _ _ _ => rfl
  have r1 : ∀ a b c d e, rdI .u64 [Blk.cells [.int .i64 a, .int .u64 b, .int .i64 c, .int .i64 d, .int .i64 e] .exact] 0 1 = some b := fun _ _ _ _ _ => rfl
  have r2 : ∀ a b c d e, rdI .i64 [Blk.cells [.int .i64 a, .int .u64 b, .int .i64 c, .int .i64 d, .int .i64 e] .exact] 0 2 = some c := fun _ _ _ _ _ => rfl
  have r3 : ∀ a b c d e, rdI .i64 [Blk.cells [.int .i64 a, .int .u64 b, .int .i64 c, .int .i64 d, .int .i64 e] .exact] 0 3 = some d := fun _ _ _ _ _ => rfl
  have r4 : ∀ a b c d e, rdI .i64 [Blk.cells [.int .i64 a, .int .u64 b, .int .i64 c, .int .i64 d, .int .i64 e] .exact] 0 4 = some e := fun _ _ _ _ _ => rfl
  have h1' : tagOK (k, q, i, o, w, ()) = true := h1
  have d2 : decide ((size : Int) < 0) = false := decide_eq_false (by omega)
  have d3 : decide (65536 ≤ (size : Int)) = false := decide_eq_false (by omega)
  have d4 : decide ((size : Int) < (s.length : Int)) = false := decide_eq_false (by omega)
  have ew : IntKind.wrap .i64 ((size : Int) - (s.length : Int)) = ((size - s.length : Nat) : Int) := by rw [wrap_i64 (by omega) (by omega)]; omega
  simp only [bind_some, page_Check_eq, h1', Bool.not_true, cond_f, d2, d3, d4, r0, r1, r2, r3, r4, ew]
  rw [rep_of (by simp; omega) (by omega), flat1]
  have l1 := dataOf_length h4
  have c1 : catS s (List.replicate (size - s.length) 0) = some (dataOf s size) := by rw [cat_of (by simp; omega)]; rfl
  have f1 : code_Fixed (IntKind.wrap .u64 k) 1 = some (leB 1 k.toNat, ()) := by rw [wrap64_int (by omega) (by omega)]; exact code_Fixed_eq _ 1 (by omega) (by decide)
  have f2 : code_Fixed q 8 = some (leB 8 q.toNat, ()) := by rw [show q = ((q.toNat : Nat) : Int) by omega]; exact code_Fixed_eq _ 8 (by omega) (by decide)
  have f3 : code_Fixed (IntKind.wrap .u64 i) 2 = some (leB 2 i.toNat, ()) := by rw [wrap64_int (by omega) (by omega)]; exact code_Fixed_eq _ 2 (by omega) (by decide)
  have f4 : code_Fixed (IntKind.wrap .u64 o) 2 = some (leB 2 o.toNat, ()) := by rw [wrap64_int (by omega) (by omega)]; exact code_Fixed_eq _ 2 (by omega) (by decide)
  have f5 : code_Fixed (IntKind.wrap .u64 w) 4 = some (leB 4 w.toNat, ()) := by rw [wrap64_int (by omega) (by omega)]; exact code_Fixed_eq _ 4 (by omega) (by decide)
  have f6 : code_Fixed (IntKind.wrap .u64 (s.length : Int)) 2 = some (leB 2 s.length, ()) := by rw [wrap64_nat (by omega)]; exact code_Fixed_eq _ 2 (by omega) (by decide)
  simp only [bind_some, c1, f1, f2, f3, f4, f5, f6]
  rw [cat_of (by simp [leB_length]), bind_some, cat_of (by simp [leB_length]), bind_some, cat_of (by simp [leB_length]), bind_some, cat_of (by simp [leB_length]), bind_some, cat_of (by simp [leB_length]), bind_some]
  have lr : (leB 1 k.toNat ++ leB 8 q.toNat ++ leB 2 i.toNat ++ leB 2 o.toNat ++ leB 4 w.toNat ++ leB 2 s.length).length = 19 := by simp [leB_length]
  have ew2 : IntKind.wrap .i64 (28 - ((leB 1 k.toNat ++ leB 8 q.toNat ++ leB 2 i.toNat ++ leB 2 o.toNat ++ leB 4 w.toNat ++ leB 2 s.length).length : Int)) = ((9 : Nat) : Int) := by rw [lr]; rfl
  rw [ew2, rep_of (by simp) (by decide), flat1, bind_some, cat_of (by simp [leB_length]), bind_some]
  have er : (leB 1 k.toNat ++ leB 8 q.toNat ++ leB 2 i.toNat ++ leB 2 o.toNat ++ leB 4 w.toNat ++ leB 2 s.length ++ List.replicate 9 (0 : UInt8)) = rowOf (k, q, i, o, w, u) s.length := rfl
  rw [er, crc_Sum_eq _ (by rw [l1]; omega), bind_some]
  have lr2 := rowOf_length (k, q, i, o, w, u) s.length
  have hc0 : crcMore 0 (dataOf s size) < 4294967296 := crcMore_lt (by decide)
  rw [crc_More_eq _ _ hc0 (by rw [lr2]; decide), bind_some, crcMore_app]
  have hc1 : crcMore 0 (dataOf s size ++ rowOf (k, q, i, o, w, u) s.length) < 4294967296 := crcMore_lt (by decide)
  rw [wrap64_nat (by omega)]
  rw [show code_Fixed ((crcMore 0 (dataOf s size ++ rowOf (k, q, i, o, w, u) s.length) : Nat) : Int) 4 = some (leB 4 (crcMore 0 (dataOf s size ++ rowOf (k, q, i, o, w, u) s.length)), ()) from code_Fixed_eq _ 4 (by omega) (by decide), bind_some, cat_of (by rw [lr2, leB_length]; decide), bind_some]
  rfl

/-! Look. -/
def cleanB (s : Bytes) : Bool := s.all fun b => b == 255
theorem page_erased_eq (s : Bytes) (hs : s.length < 9223372036854775807) : page_erased s = some (cleanB s, ()) := by
  unfold page_erased page_erased.on
  obtain ⟨x, H', h1, h2⟩ := loopW_run (step := page_erased.s1 s) (fun t _ => ∃ i : Nat, i ≤ s.length ∧ t.1 = (i : Int) ∧ cleanB (s.take i) = true) (fun x _ => match x with | .inl _ => cleanB s = true | .inr b => cleanB s = false ∧ b.1 = false) (fun t _ => s.length - t.1.toNat)
    (by
      rintro ⟨j, u⟩ H ⟨i, hi, hj, hc⟩
      have hj : j = (i : Int) := hj
      subst hj
      unfold page_erased.s1
      by_cases hlt : i < s.length
      · have hd : decide ((i : Int) < (s.length : Int)) = true := decide_eq_true (by omega)
        simp only [hd, cond_t, idx_of hlt, bind_some]
        have htk : s.take (i + 1) = s.take i ++ [s[i]] := by rw [List.take_add_one, List.getElem?_eq_getElem hlt]; rfl
        by_cases h255 : s[i] = 255
        · have : decide (((s[i].toNat : Nat) : Int) = 255) = true := decide_eq_true (by rw [h255]; rfl)
          simp only [this, Bool.not_true, cond_f, wrap_succ (show i < 9223372036854775807 by omega), Round]
          refine ⟨⟨i + 1, hlt, rfl, ?_⟩, by simp; omega⟩
          rw [htk]
          unfold cleanB at hc ⊢
          rw [List.all_append, hc]; simp [h255]
        · have : decide (((s[i].toNat : Nat) : Int) = 255) = false := decide_eq_false (by
            intro hh
            apply h255
            apply UInt8.toNat_inj.1
            have : (255 : UInt8).toNat = 255 := rfl
            omega)
          simp only [this, Bool.not_false, cond_t, Round]
          refine ⟨?_, trivial⟩
          unfold cleanB
          rw [List.all_eq_false]
          exact ⟨s[i], List.getElem_mem hlt, by simpa using h255⟩
      · have : i = s.length := by omega
        subst this
        have hd : decide ((s.length : Int) < (s.length : Int)) = false := decide_eq_false (by omega)
        simp only [hd, cond_f, Round]
        rw [List.take_length] at hc
        exact hc) (0, ()) [] ⟨0, Nat.zero_le _, rfl, rfl⟩
  rw [h1, bind_some]
  cases x with
  | inl _ => have h2 : cleanB s = true := h2; simp [h2]
  | inr b => obtain ⟨g1, g2⟩ : cleanB s = false ∧ b.1 = false := h2; simp [g1, g2]

def fld (b : Bytes) (o n : Nat) : Nat := valB ((b.drop o).take n)
theorem fld_lt (b : Bytes) (o n : Nat) : fld b o n < 256 ^ n := by
  have h := valB_lt ((b.drop o).take n)
  exact Nat.lt_of_lt_of_le h (Nat.pow_le_pow_right (by decide) (by simp; omega))
def tagOf (b : Bytes) : Tg := ((fld b 0 1 : Nat), (fld b 1 8 : Nat), (fld b 9 2 : Nat), (fld b 11 2 : Nat), (fld b 13 4 : Nat), ())
def longOf (b : Bytes) : Nat := fld b 17 2
theorem tagOf_seq (b : Bytes) : 0 ≤ (tagOf b).2.1 ∧ (tagOf b).2.1 < 18446744073709551616 := by
  have := fld_lt b 1 8
  simp only [tagOf]; omega
/-- Is it a page that is whole? -/
def whole (a b : Bytes) : Bool := decide (b.length = 32 ∧ longOf b ≤ a.length ∧ tagOK (tagOf b) = true ∧ a.length < 65536 ∧ dataOf (a.take (longOf b)) a.length = a ∧ spareOf (tagOf b) (a.take (longOf b)) a.length = b)
def lookP (a b : Bytes) : Int × Tg × Bytes × Unit :=
  if cleanB a = true ∧ cleanB b = true then (0, tag0, [], ()) else if whole a b = true then (1, tagOf b, a.take (longOf b), ()) else (2, tag0, [], ())

theorem rf2 (A : Blk) (s : Bytes) (n : Nat) (h : n ≤ s.length) (h8 : n ≤ 8) : code_Reader_Fixed (some (1, 0)) (n : Int) [A, rdr s 0] = some ((((valB (s.take n) : Nat) : Int), ()), [A, rdr (s.drop n) 0]) := code_RFixed_eq (H := [A, rdr s 0]) rfl h h8
theorem rf3 (A B : Blk) (s : Bytes) (n : Nat) (h : n ≤ s.length) (h8 : n ≤ 8) : code_Reader_Fixed (some (1, 0)) (n : Int) [A, rdr s 0, B] = some ((((valB (s.take n) : Nat) : Int), ()), [A, rdr (s.drop n) 0, B]) := code_RFixed_eq (H := [A, rdr s 0, B]) rfl h h8

def tagB (t : Tg) : Blk := .cells [.int .i64 t.1, .int .u64 t.2.1, .int .i64 t.2.2.1, .int .i64 t.2.2.2.1, .int .i64 t.2.2.2.2.1] .exact
theorem wr_tag (H : Heap) (b : Nat) (t : Tg) (h : H[b]? = some (tagB t)) (u : Tg) : wr H b 0 [.int .i64 u.1, .int .u64 u.2.1, .int .i64 u.2.2.1, .int .i64 u.2.2.2.1, .int .i64 u.2.2.2.2.1] = some (H.set b (tagB u)) := by
  rw [wr_of h (by decide) (by simp)]; rfl

set_option maxRecDepth 4000 in
theorem page_Look_eq (a b : Bytes) (ha : a.length < 4611686018427387904) (hb : b.length < 4611686018427387904) : page_Look a b = some (lookP a b) := by
  unfold page_Look page_Look.on lookP
  have er (x : Bytes) (hx : x.length < 4611686018427387904) := page_erased_eq x (by omega)
  simp only [er a ha, er b hb, bind_some, List.nil_append, List.length_nil]
  by_cases hcl : cleanB a = true ∧ cleanB b = true
  · simp only [if_pos hcl, hcl.1, hcl.2, cond_t]; rfl
  rw [if_neg hcl]
  have e1 : (cond (cleanB a) (cond (cleanB b) ((wr [Blk.cells [.int .i64 0, .int .u64 0, .int .i64 0, .int .i64 0, .int .i64 0] .exact] 0 0 [.int .i64 0, .int .u64 0, .int .i64 0, .int .i64 0, .int .i64 0]).bind fun (H4 : Heap) => some (Sum.inr (0, [], ()), H4)) (some (Sum.inl (()), [Blk.cells [.int .i64 0, .int .u64 0, .int .i64 0, .int .i64 0, .int .i64 0] .exact]))) (some (Sum.inl (()), [Blk.cells [.int .i64 0, .int .u64 0, .int .i64 0, .int .i64 0, .int .i64 0] .exact])) : Option (((Unit) ⊕ (Int × Bytes × Unit)) × Heap)) = some (Sum.inl (), [tagB tag0]) := by
    cases h1 : cleanB a with
    | false => rfl
    | true =>
      cases h2 : cleanB b with
      | false => rfl
      | true => exact absurd ⟨h1, h2⟩ hcl
  rw [e1]
  simp only [bind_some, Sum.elim_inl]
  by_cases h32 : b.length = 32
  rotate_left
  · have d : decide ((b.length : Int) = 32) = false := decide_eq_false (by omega)
    have hw : whole a b = false := decide_eq_false (fun h => h32 h.1)
    simp only [d, Bool.not_false, cond_t, hw]
    rfl
  have d : decide ((b.length : Int) = 32) = true := decide_eq_true (by omega)
  simp only [d, Bool.not_true, cond_f, code_New_eq, bind_some, List.length_cons, List.length_nil, List.cons_append, List.nil_append, Nat.zero_add]
  have g1 := rf2 (tagB tag0) b 1 (by omega) (by decide)
  have g2 := rf2 (tagB tag0) (b.drop 1) 8 (by simp; omega) (by decide)
  have g3 := rf2 (tagB tag0) (b.drop 9) 2 (by simp; omega) (by decide)
  have g4 := rf2 (tagB tag0) (b.drop 11) 2 (by simp; omega) (by decide)
  have g5 := rf2 (tagB tag0) (b.drop 13) 4 (by simp; omega) (by decide)
  have g6 : ∀ B, _ := fun B => rf3 (tagB tag0) B (b.drop 17) 2 (by simp; omega) (by decide)
  simp only [List.drop_drop, Nat.reduceAdd] at g1 g2 g3 g4 g5 g6
  have q0 : fld b 0 1 = valB (b.take 1) := rfl
  have t1 := fld_lt b 0 1; have t2 := fld_lt b 1 8; have t3 := fld_lt b 9 2; have t4 := fld_lt b 11 2; have t5 := fld_lt b 13 4; have t6 := fld_lt b 17 2
  have k1 : code_Reader_Fixed (some (1, 0)) 1 [tagB tag0, rdr b 0] = some ((((fld b 0 1 : Nat) : Int), ()), [tagB tag0, rdr (b.drop 1) 0]) := g1
  have k2 : code_Reader_Fixed (some (1, 0)) 8 [tagB tag0, rdr (b.drop 1) 0] = some ((((fld b 1 8 : Nat) : Int), ()), [tagB tag0, rdr (b.drop 9) 0]) := g2
  have k3 : code_Reader_Fixed (some (1, 0)) 2 [tagB tag0, rdr (b.drop 9) 0] = some ((((fld b 9 2 : Nat) : Int), ()), [tagB tag0, rdr (b.drop 11) 0]) := g3
  have k4 : code_Reader_Fixed (some (1, 0)) 2 [tagB tag0, rdr (b.drop 11) 0] = some ((((fld b 11 2 : Nat) : Int), ()), [tagB tag0, rdr (b.drop 13) 0]) := g4
  have k5 : code_Reader_Fixed (some (1, 0)) 4 [tagB tag0, rdr (b.drop 13) 0] = some ((((fld b 13 4 : Nat) : Int), ()), [tagB tag0, rdr (b.drop 17) 0]) := g5
  have k6 : ∀ B, code_Reader_Fixed (some (1, 0)) 2 [tagB tag0, rdr (b.drop 17) 0, B] = some ((((longOf b : Nat) : Int), ()), [tagB tag0, rdr (b.drop 19) 0, B]) := g6
  have w1 : IntKind.wrap .i64 ((fld b 0 1 : Nat) : Int) = ((fld b 0 1 : Nat) : Int) := wrap_i64 (by omega) (by omega)
  have w3 : IntKind.wrap .i64 ((fld b 9 2 : Nat) : Int) = ((fld b 9 2 : Nat) : Int) := wrap_i64 (by omega) (by omega)
  have w4 : IntKind.wrap .i64 ((fld b 11 2 : Nat) : Int) = ((fld b 11 2 : Nat) : Int) := wrap_i64 (by omega) (by omega)
  have w5 : IntKind.wrap .i64 ((fld b 13 4 : Nat) : Int) = ((fld b 13 4 : Nat) : Int) := wrap_i64 (by omega) (by omega)
  have w6 : IntKind.wrap .i64 ((longOf b : Nat) : Int) = ((longOf b : Nat) : Int) := wrap_i64 (by unfold longOf; omega) (by unfold longOf; omega)
  have ww : ∀ (A B : Blk), wr [A, B, Blk.cells [.int .i64 0, .int .u64 0, .int .i64 0, .int .i64 0, .int .i64 0] .exact] 2 0 [.int .i64 ((fld b 0 1 : Nat) : Int), .int .u64 ((fld b 1 8 : Nat) : Int), .int .i64 ((fld b 9 2 : Nat) : Int), .int .i64 ((fld b 11 2 : Nat) : Int), .int .i64 ((fld b 13 4 : Nat) : Int)] = some [A, B, tagB (tagOf b)] := fun _ _ => rfl
  have rr : ∀ (A B : Blk) (t : Tg), @Eq (Option Tg) (rd [A, B, tagB t] (.agg [.int .i64, .int .u64, .int .i64, .int .i64, .int .i64]) 2 0) (some (t.1, t.2.1, t.2.2.1, t.2.2.2.1, t.2.2.2.2.1, ())) := fun _ _ _ => rfl
  have wz : ∀ (B D : Blk), wr [tagB tag0, B, D] 0 0 [.int .i64 0, .int .u64 0, .int .i64 0, .int .i64 0, .int .i64 0] = some [tagB tag0, B, D] := fun _ _ => rfl
  have rz : ∀ (B D : Blk) (t : Tg), @Eq (Option Tg) (rd [tagB t, B, D] (.agg [.int .i64, .int .u64, .int .i64, .int .i64, .int .i64]) 0 0) (some (t.1, t.2.1, t.2.2.1, t.2.2.2.1, t.2.2.2.2.1, ())) := fun _ _ _ => rfl
  have wf : ∀ (B D : Blk) (t : Tg), wr [tagB tag0, B, D] 0 0 [.int .i64 t.1, .int .u64 t.2.1, .int .i64 t.2.2.1, .int .i64 t.2.2.2.1, .int .i64 t.2.2.2.2.1] = some [tagB t, B, D] := fun _ _ _ => rfl
  simp only [k1, k2, k3, k4, k5, bind_some, w1, w3, w4, w5, List.cons_append, List.nil_append, List.length_cons, List.length_nil, Nat.zero_add, Nat.reduceAdd, ww, k6, w6]
  by_cases hl : longOf b ≤ a.length
  rotate_left
  · have d2 : decide ((a.length : Int) < ((longOf b : Nat) : Int)) = true := decide_eq_true (by omega)
    have hw : whole a b = false := decide_eq_false (fun h => hl h.2.1)
    simp only [d2, cond_t, wz, bind_some, rz, hw]
    rfl
  have d2 : decide ((a.length : Int) < ((longOf b : Nat) : Int)) = false := decide_eq_false (by omega)
  simp only [d2, cond_f, rr, bind_some, page_Check_eq]
  have he : tagOK ((tagOf b).1, (tagOf b).2.1, (tagOf b).2.2.1, (tagOf b).2.2.2.1, (tagOf b).2.2.2.2.1, ()) = tagOK (tagOf b) := rfl
  rw [he]
  cases hok : tagOK (tagOf b) with
  | false =>
    have hw : whole a b = false := decide_eq_false (fun h => by rw [hok] at h; exact absurd h.2.2.1 (by decide))
    simp only [Bool.not_false, cond_t, wz, bind_some, rz, hw]
    rfl
  | true =>
    simp only [Bool.not_true, cond_f]
    have hsub : subS a 0 ((longOf b : Nat) : Int) = some (a.take (longOf b)) := by
      rw [show (0 : Int) = ((0 : Nat) : Int) from rfl, sub_of (Nat.zero_le _) hl]; rfl
    simp only [hsub, bind_some]
    by_cases h65 : a.length < 65536
    rotate_left
    · have hno := page_Frame_no (t := tagOf b) (s := a.take (longOf b)) (size := (a.length : Int)) (.inr (.inr (.inl (by omega))))
      have hno' : page_Frame ((tagOf b).1, (tagOf b).2.1, (tagOf b).2.2.1, (tagOf b).2.2.2.1, (tagOf b).2.2.2.2.1, ()) (a.take (longOf b)) (a.length : Int) = some ([], [], 1, ()) := hno
      have hw : whole a b = false := decide_eq_false (fun h => h65 h.2.2.2.1)
      simp only [hno', bind_some, show decide ((1 : Int) = 0) = false from rfl, Bool.not_false, cond_t, wz, rz, hw]
      rfl
    have hyes := page_Frame_yes (t := tagOf b) (s := a.take (longOf b)) (size := a.length) hok (tagOf_seq b) h65 (by simp; omega)
    have hyes' : page_Frame ((tagOf b).1, (tagOf b).2.1, (tagOf b).2.2.1, (tagOf b).2.2.2.1, (tagOf b).2.2.2.2.1, ()) (a.take (longOf b)) (a.length : Int) = some (dataOf (a.take (longOf b)) a.length, spareOf (tagOf b) (a.take (longOf b)) a.length, 0, ()) := hyes
    simp only [hyes', bind_some, decide_true, Bool.not_true, cond_f]
    by_cases x1 : dataOf (a.take (longOf b)) a.length = a
    rotate_left
    · have hw : whole a b = false := decide_eq_false (fun h => x1 h.2.2.2.2.1)
      simp only [decide_eq_false x1, Bool.not_false, cond_t, wz, bind_some, rz, hw]
      rfl
    by_cases x2 : spareOf (tagOf b) (a.take (longOf b)) a.length = b
    rotate_left
    · have hw : whole a b = false := decide_eq_false (fun h => x2 h.2.2.2.2.2)
      simp only [decide_eq_true x1, decide_eq_false x2, Bool.not_false, Bool.not_true, cond_f, cond_t, wz, bind_some, rz, hw]
      rfl
    have hw : whole a b = true := decide_eq_true ⟨h32, hl, hok, h65, x1, x2⟩
    simp only [decide_eq_true x1, decide_eq_true x2, Bool.not_true, cond_f, rr, bind_some, wf, rz, hw, if_true]
end Ev

/- Pages of a chip as package page sees them: numbers that stand in them; pages that were torn. -/
namespace Ev
open Go (IntKind)

theorem fld_here' {x y : Bytes} {n : Nat} (h : x.length = n) : fld (x ++ y) 0 n = valB x := by
  unfold fld; rw [List.drop_zero, ← h, List.take_left]
theorem fld_next' {x y : Bytes} {o n m : Nat} (h : x.length = m) (ho : m ≤ o) : fld (x ++ y) o n = fld y (o - m) n := by
  unfold fld
  rw [List.drop_append, List.drop_eq_nil_of_le (by omega), List.nil_append, h]

theorem tagOf_spare' {t : Tg} {s : Bytes} {size : Nat} (h1 : tagOK t = true) (hq : 0 ≤ t.2.1 ∧ t.2.1 < 18446744073709551616) (h3 : size < 65536) (h4 : s.length ≤ size) : tagOf (spareOf t s size) = t ∧ longOf (spareOf t s size) = s.length := by
  obtain ⟨k, q, i, o, w, u⟩ := t
  have ht := of_decide_eq_true h1
  simp only at ht hq
  have e : spareOf (k, q, i, o, w, u) s size = leB 1 k.toNat ++ (leB 8 q.toNat ++ (leB 2 i.toNat ++ (leB 2 o.toNat ++ (leB 4 w.toNat ++ (leB 2 s.length ++ (zerosB 9 ++ leB 4 (crcMore 0 (dataOf s size ++ rowOf (k, q, i, o, w, u) s.length)))))))) := by
    simp [spareOf, rowOf, List.append_assoc]
  have v1 : valB (leB 1 k.toNat) = k.toNat := valB_leB 1 _ (by omega)
  have v2 : valB (leB 8 q.toNat) = q.toNat := valB_leB 8 _ (by omega)
  have v3 : valB (leB 2 i.toNat) = i.toNat := valB_leB 2 _ (by omega)
  have v4 : valB (leB 2 o.toNat) = o.toNat := valB_leB 2 _ (by omega)
  have v5 : valB (leB 4 w.toNat) = w.toNat := valB_leB 4 _ (by omega)
  have v6 : valB (leB 2 s.length) = s.length := valB_leB 2 _ (by omega)
  have l1 := leB_length 1 k.toNat; have l2 := leB_length 8 q.toNat; have l3 := leB_length 2 i.toNat; have l4 := leB_length 2 o.toNat; have l5 := leB_length 4 w.toNat; have l6 := leB_length 2 s.length
  rw [e]
  generalize zerosB 9 ++ leB 4 (crcMore 0 (dataOf s size ++ rowOf (k, q, i, o, w, u) s.length)) = z
  unfold tagOf longOf
  rw [fld_here' l1, fld_next' l1 (by decide), fld_here' l2]
  rw [fld_next' l1 (by decide), fld_next' l2 (by decide), fld_here' l3]
  rw [fld_next' l1 (by decide), fld_next' l2 (by decide), fld_next' l3 (by decide), fld_here' l4]
  rw [fld_next' l1 (by decide), fld_next' l2 (by decide), fld_next' l3 (by decide), fld_next' l4 (by decide), fld_here' l5]
  rw [fld_next' l1 (by decide), fld_next' l2 (by decide), fld_next' l3 (by decide), fld_next' l4 (by decide), fld_next' l5 (by decide), fld_here' l6]
  rw [v1, v2, v3, v4, v5, v6]
  refine ⟨?_, rfl⟩
  rw [Int.toNat_of_nonneg (by omega), Int.toNat_of_nonneg (by omega), Int.toNat_of_nonneg (by omega), Int.toNat_of_nonneg (by omega), Int.toNat_of_nonneg (by omega)]
theorem spare_dirty' (t : Tg) (s : Bytes) (size : Nat) : cleanB (spareOf t s size) = false := by
  unfold cleanB
  rw [List.all_eq_false]
  refine ⟨0, ?_, by decide⟩
  simp [spareOf, rowOf, zerosB]
theorem look_frame' {t : Tg} {s : Bytes} {size : Nat} (h1 : tagOK t = true) (hq : 0 ≤ t.2.1 ∧ t.2.1 < 18446744073709551616) (h3 : size < 65536) (h4 : s.length ≤ size) : lookP (dataOf s size) (spareOf t s size) = (1, t, s, ()) := by
  obtain ⟨e1, e2⟩ := tagOf_spare' h1 hq h3 h4
  have e3 : (dataOf s size).take s.length = s := by unfold dataOf; rw [List.take_left]
  have e4 := dataOf_length h4
  have hw : whole (dataOf s size) (spareOf t s size) = true := decide_eq_true ⟨spareOf_length t s size, by rw [e2, e4]; exact h4, by rw [e1]; exact h1, by rw [e4]; exact h3, by rw [e2, e3, e4], by rw [e1, e2, e3, e4]⟩
  unfold lookP
  rw [if_neg (fun h => by rw [spare_dirty'] at h; exact absurd h.2 (by decide)), if_pos hw, e1, e2, e3]

/-- What package page says of the bytes of a page. -/
def viewB (a : NdA) (t : Bytes) : Int × Tg × Bytes × Unit := lookP (t.take a.S) (t.drop a.S)
theorem view_full (a : NdA) : viewB a (fullP a) = (0, tag0, [], ()) := by
  unfold viewB lookP
  have h : ∀ t : Bytes, (∀ b ∈ t, b = 255) → cleanB t = true := fun t ht => List.all_eq_true.2 fun b hb => by simpa using ht b hb
  rw [if_pos]
  refine ⟨h _ fun b hb => ?_, h _ fun b hb => ?_⟩
  · exact List.eq_of_mem_replicate (List.mem_of_mem_take hb)
  · exact List.eq_of_mem_replicate (List.mem_of_mem_drop hb)
theorem view_clean {a : NdA} {t : Bytes} (hl : t.length = a.S + 32) (h : (viewB a t).1 = 0) : t = fullP a := by
  unfold viewB lookP at h
  split at h
  · rename_i hc
    unfold fullP
    rw [List.eq_replicate_iff]
    refine ⟨hl, fun b hb => ?_⟩
    rw [← List.take_append_drop a.S t] at hb
    rcases List.mem_append.1 hb with hb | hb
    · simpa using List.all_eq_true.1 hc.1 b hb
    · simpa using List.all_eq_true.1 hc.2 b hb
  · split at h
    · exact absurd h (by simp)
    · exact absurd h (by simp)

/-- The bytes of a page that says s under a tag. -/
def frameB (a : NdA) (t : Tg) (s : Bytes) : Bytes := dataOf s a.S ++ spareOf t s a.S
theorem frameB_length {a : NdA} {t : Tg} {s : Bytes} (h : s.length ≤ a.S) : (frameB a t s).length = a.S + 32 := by unfold frameB; rw [List.length_append, dataOf_length h, spareOf_length]
theorem view_frame {a : NdA} {t : Tg} {s : Bytes} (h1 : tagOK t = true) (hq : 0 ≤ t.2.1 ∧ t.2.1 < 18446744073709551616) (h3 : a.S < 65536) (h4 : s.length ≤ a.S) : viewB a (frameB a t s) = (1, t, s, ()) := by
  unfold viewB frameB
  rw [List.take_left' (dataOf_length h4), List.drop_left' (dataOf_length h4)]
  exact look_frame' h1 hq h3 h4
theorem frame_ne_full {a : NdA} {t : Tg} {s : Bytes} (h4 : s.length ≤ a.S) : frameB a t s ≠ fullP a := by
  intro h
  have h0 : (0 : UInt8) ∈ fullP a := by rw [← h]; simp [frameB, spareOf, rowOf, zerosB]
  exact absurd (List.eq_of_mem_replicate h0) (by decide)

theorem Fine.erased {a : NdA} {s : Nd} (h : Fine a s) (b p : Nat) : (viewB a (s.read a b p)).1 = 0 ↔ s.pages b p = [] := by
  constructor
  · intro hv
    have hf := view_clean (h.read b p) hv
    by_cases he : s.pages b p = []
    · exact he
    · have hne := ((h b p).resolve_left he).2
      unfold Nd.read at hf
      rw [if_neg he] at hf
      exact absurd hf hne
  · intro he
    unfold Nd.read
    rw [if_pos he, view_full]
end Ev

/- The writer: how it stands in the heap. -/
namespace Ev
open Go (IntKind)

structure WrA where
  w : Nat
  wb : Nat
structure Wr where
  lf : Lf
  worn : Nat → Int
  bad : List Int
def Wr.row (v : Wr) (i : Nat) : List C := [.int .i64 (v.worn i)]
def wcells (z : WrA) (a : NdA) (e : LfA) (sb : Sl) : List C := [.ptr (some (a.c, 0)), .ptr (some (e.c, 0)), .sl 1 ⟨some (z.wb, 0), e.B, e.B⟩, .sl 1 sb]

/-- The blocks of a writer. -/
def WrA.own (z : WrA) (a : NdA) (e : LfA) (sb : Sl) (k : Nat) : Prop := a.own k ∨ e.fp k ∨ k = z.w ∨ k = z.wb ∨ ∃ o, sb.p = some (k, o)
structure WrAt (N : Nat → Prop) (H : Heap) (z : WrA) (a : NdA) (e : LfA) (s : Nd) (v : Wr) (sb : Sl) : Prop where
  nd : NdAt H a s
  lf : LfAt H e v.lf
  cell : H[z.w]? = some (.cells (wcells z a e sb) .exact)
  worn : ∃ bk, bk ≠ .ro ∧ H[z.wb]? = some (.cells (arrC e.B v.row) bk)
  bads : Grown H 1 sb (intC v.bad)
  eB : e.B = a.B ∧ e.P = a.P
  d1 : ∀ k, a.own k → ¬ e.fp k ∧ k ≠ z.w ∧ k ≠ z.wb ∧ ∀ o, sb.p ≠ some (k, o)
  d2 : ∀ k, e.fp k → k ≠ z.w ∧ k ≠ z.wb ∧ ∀ o, sb.p ≠ some (k, o)
  d3 : z.w ≠ z.wb ∧ (∀ o, sb.p ≠ some (z.w, o)) ∧ ∀ o, sb.p ≠ some (z.wb, o)
  nN : ∀ k, z.own a e sb k → ¬ N k
  NL : ∀ k, N k → k < H.length

section
variable {N : Nat → Prop} {H : Heap} {z : WrA} {a : NdA} {e : LfA} {s : Nd} {v : Wr} {sb : Sl}

theorem wrow_len (v : Wr) : ∀ i, (v.row i).length = 1 := fun _ => rfl
theorem WrAt.rc (h : WrAt N H z a e s v sb) : rdP H z.w 0 = some (some (a.c, 0)) := rdP_of h.cell rfl
theorem WrAt.rl (h : WrAt N H z a e s v sb) : rdP H z.w 1 = some (some (e.c, 0)) := rdP_of h.cell rfl
theorem WrAt.rw' (h : WrAt N H z a e s v sb) : rdSl 1 H z.w 2 = some ⟨some (z.wb, 0), e.B, e.B⟩ := rdSl_of h.cell rfl
theorem WrAt.rb (h : WrAt N H z a e s v sb) : rdSl 1 H z.w 3 = some sb := rdSl_of h.cell rfl
theorem WrAt.wat (i : Nat) (hi : i < e.B) : Sl.at 1 ⟨some (z.wb, 0), e.B, e.B⟩ (i : Int) = some (z.wb, i) := by
  rw [at_of (by omega) (by omega), Int.toNat_natCast, Nat.mul_one, Nat.zero_add]
theorem WrAt.ri (h : WrAt N H z a e s v sb) {i : Nat} (hi : i < e.B) : rdI .i64 H z.wb i = some (v.worn i) := by
  obtain ⟨bk, _, hw⟩ := h.worn
  have := arrC_get (wrow_len v) (j := 0) (by decide) hi
  rw [Nat.mul_one, Nat.add_zero] at this
  exact rdI_of hw this
theorem WrAt.lt (h : WrAt N H z a e s v sb) {k : Nat} (hk : z.own a e sb k) : k < H.length := by
  rcases hk with hk | hk | rfl | rfl | ⟨o, ho⟩
  · exact h.nd.own_lt hk
  · exact h.lf.lt hk
  · exact get_lt h.cell
  · obtain ⟨bk, _, hw⟩ := h.worn
    exact get_lt hw
  · exact h.bads.lt ho
/-- Other blocks turn. -/
theorem WrAt.keep (h : WrAt N H z a e s v sb) {F : Nat → Prop} {H' : Heap} (kp : Keep F H H') (hF : ∀ k, z.own a e sb k → ¬ F k) : WrAt N H' z a e s v sb where
  nd := h.nd.keep kp fun k hk => hF k (.inl hk)
  lf := h.lf.keep kp fun k hk => hF k (.inr (.inl hk))
  cell := kp.get h.cell (hF _ (.inr (.inr (.inl rfl))))
  worn := by
    obtain ⟨bk, h1, h2⟩ := h.worn
    exact ⟨bk, h1, kp.get h2 (hF _ (.inr (.inr (.inr (.inl rfl)))))⟩
  bads := h.bads.mono fun x hx => kp.same _ (h.bads.lt hx) (hF _ (.inr (.inr (.inr (.inr ⟨x.2, hx⟩)))))
  eB := h.eB
  d1 := h.d1
  d2 := h.d2
  d3 := h.d3
  nN := h.nN
  NL := fun k hk => Nat.lt_of_lt_of_le (h.NL k hk) kp.len
theorem WrAt.push (h : WrAt N H z a e s v sb) (x : Blk) : WrAt N (H ++ [x]) z a e s v sb := h.keep (Keep.push (fun _ => False) H x) fun _ _ => id
/-- Blocks that are no more to be touched. -/
theorem WrAt.more (h : WrAt N H z a e s v sb) {M : Nat → Prop} (h1 : ∀ k, z.own a e sb k → ¬ M k) (h2 : ∀ k, M k → k < H.length) : WrAt M H z a e s v sb := { h with nN := h1, NL := h2 }
theorem WrAt.chip (h : WrAt N H z a e s v sb) {H' : Heap} {s' : Nd} (n : NdAt H' a s') (kp : Keep a.fp H H') : WrAt N H' z a e s' v sb where
  nd := n
  lf := h.lf.keep kp fun k hk hf => (h.d1 k (.inl hf)).1 hk
  cell := kp.get h.cell fun hf => (h.d1 _ (.inl hf)).2.1 rfl
  worn := by
    obtain ⟨bk, h1, h2⟩ := h.worn
    exact ⟨bk, h1, kp.get h2 fun hf => (h.d1 _ (.inl hf)).2.2.1 rfl⟩
  bads := h.bads.mono fun x hx => kp.same _ (h.bads.lt hx) fun hf => (h.d1 _ (.inl hf)).2.2.2 x.2 hx
  eB := h.eB
  d1 := h.d1
  d2 := h.d2
  d3 := h.d3
  nN := h.nN
  NL := fun k hk => Nat.lt_of_lt_of_le (h.NL k hk) kp.len
theorem WrAt.life (h : WrAt N H z a e s v sb) {H' : Heap} {f : Lf} (n : LfAt H' e f) (kp : Keep e.fp H H') : WrAt N H' z a e s { v with lf := f } sb where
  nd := h.nd.keep kp fun k hk hf => (h.d1 k hk).1 hf
  lf := n
  cell := kp.get h.cell fun hf => (h.d2 _ hf).1 rfl
  worn := by
    obtain ⟨bk, h1, h2⟩ := h.worn
    exact ⟨bk, h1, kp.get h2 fun hf => (h.d2 _ hf).2.1 rfl⟩
  bads := h.bads.mono fun x hx => kp.same _ (h.bads.lt hx) fun hf => (h.d2 _ hf).2.2 x.2 hx
  eB := h.eB
  d1 := h.d1
  d2 := h.d2
  d3 := h.d3
  nN := h.nN
  NL := fun k hk => Nat.lt_of_lt_of_le (h.NL k hk) kp.len
theorem WrAt.nc (h : WrAt N H z a e s v sb) {H' : Heap} (kp : Keep a.fp H H') : Keep (fun k => ¬ N k) H H' := kp.mono fun k hk => h.nN k (.inl (.inl hk))
theorem WrAt.nl (h : WrAt N H z a e s v sb) {H' : Heap} (kp : Keep e.fp H H') : Keep (fun k => ¬ N k) H H' := kp.mono fun k hk => h.nN k (.inr (.inl hk))
theorem WrAt.nw (h : WrAt N H z a e s v sb) {H' : Heap} (kp : Keep (fun k => k = z.w) H H') : Keep (fun k => ¬ N k) H H' := kp.mono fun k hk => h.nN k (.inr (.inr (.inl hk)))
theorem WrAt.nb (h : WrAt N H z a e s v sb) {H' : Heap} (kp : Keep (fun k => k = z.wb) H H') : Keep (fun k => ¬ N k) H H' := kp.mono fun k hk => h.nN k (.inr (.inr (.inr (.inl hk))))
/-- A count of erasures is written. -/
theorem WrAt.wi (h : WrAt N H z a e s v sb) {i : Nat} (hi : i < e.B) (x : Int) : ∃ H', wr H z.wb i [.int .i64 x] = some H' ∧ WrAt N H' z a e s { v with worn := upd v.worn i x } sb ∧ Keep (fun k => ¬ N k) H H' := by
  obtain ⟨bk, h1, h2⟩ := h.worn
  have hs := arrC_set (wrow_len v) (j := 0) (by decide) (.int .i64 x) hi
  rw [Nat.mul_one, Nat.add_zero] at hs
  have hrow : (arrC e.B v.row).set i (.int .i64 x) = arrC e.B ({ v with worn := upd v.worn i x } : Wr).row := by
    rw [hs]
    congr 1
    funext k
    by_cases hk : k = i
    · subst hk; simp [Wr.row, upd]
    · simp [Wr.row, upd, hk]
  have kp : Keep (fun k => k = z.wb) H (H.set z.wb (.cells (arrC e.B ({ v with worn := upd v.worn i x } : Wr).row) bk)) := Keep.set _ _ _ rfl
  refine ⟨_, by rw [wr1_of h2 h1 (by rw [arrC_length (wrow_len v)]; omega), hrow], ?_, h.nb kp⟩
  exact { nd := h.nd.keep kp fun k hk hf => (h.d1 k hk).2.2.1 hf, lf := h.lf.keep kp fun k hk hf => (h.d2 k hk).2.1 hf, cell := kp.get h.cell h.d3.1, worn := ⟨bk, h1, set_get (get_lt h2)⟩,
          bads := h.bads.mono fun y hy => kp.same _ (h.bads.lt hy) fun hf => h.d3.2.2 y.2 (by rw [← hf]; exact hy), eB := h.eB, d1 := h.d1, d2 := h.d2, d3 := h.d3, nN := h.nN, NL := fun k hk => Nat.lt_of_lt_of_le (h.NL k hk) kp.len }
/-- Blocks that turned bad are told no more. -/
theorem WrAt.nilB (h : WrAt N H z a e s v sb) : ∃ H', wr H z.w 3 [.sl 1 ⟨none, 0, 0⟩] = some H' ∧ WrAt N H' z a e s { v with bad := [] } ⟨none, 0, 0⟩ ∧ Keep (fun k => ¬ N k) H H' := by
  have kp : Keep (fun k => k = z.w) H (H.set z.w (.cells ((wcells z a e sb).set 3 (.sl 1 ⟨none, 0, 0⟩)) .exact)) := Keep.set _ _ _ rfl
  refine ⟨_, wr1_of h.cell (by decide) (by simp [wcells]), ?_, h.nw kp⟩
  exact { nd := h.nd.keep kp fun k hk hf => (h.d1 k hk).2.1 hf, lf := h.lf.keep kp fun k hk hf => (h.d2 k hk).1 hf, cell := by rw [set_get (get_lt h.cell)]; rfl, worn := by
            obtain ⟨bk, h1, h2⟩ := h.worn
            exact ⟨bk, h1, kp.get h2 (Ne.symm h.d3.1)⟩,
          bads := Grown.ni _ 1, eB := h.eB, d1 := fun k hk => ⟨(h.d1 k hk).1, (h.d1 k hk).2.1, (h.d1 k hk).2.2.1, fun o ho => (by cases ho)⟩, d2 := fun k hk => ⟨(h.d2 k hk).1, (h.d2 k hk).2.1, fun o ho => (by cases ho)⟩, d3 := ⟨h.d3.1, fun o ho => (by cases ho), fun o ho => (by cases ho)⟩,
          nN := fun k hk => h.nN k (by
            rcases hk with hk | hk | hk | hk | ⟨o, ho⟩
            · exact .inl hk
            · exact .inr (.inl hk)
            · exact .inr (.inr (.inl hk))
            · exact .inr (.inr (.inr (.inl hk)))
            · cases ho), NL := fun k hk => Nat.lt_of_lt_of_le (h.NL k hk) kp.len }
/-- One more block turned bad. -/
theorem WrAt.addB (h : WrAt N H z a e s v sb) (x : Int) (hl : v.bad.length < 1000000) : ∃ sb' H1 H', appS (H ++ [.cells [.int .i64 x] .exact]) 1 8 sb 1 [.int .i64 x] = some (sb', H1) ∧ wr H1 z.w 3 [.sl 1 sb'] = some H' ∧ WrAt N H' z a e s { v with bad := v.bad ++ [x] } sb' ∧ Keep (fun k => ¬ N k) H H' := by
  have hp := h.push (.cells [.int .i64 x] .exact)
  have hbl : sb.len = v.bad.length := by have := h.bads.len; simp [intC] at this; omega
  obtain ⟨a1, a2⟩ := hp.bads.app (bytes := 8) (by decide) (n := 1) (new := [.int .i64 x]) (by decide) rfl (by omega) (by omega)
  have gl := grownH_length (H ++ [.cells [.int .i64 x] .exact]) sb (intC v.bad ++ [.int .i64 x])
  have hpl : (H ++ [Blk.cells [.int .i64 x] .exact]).length = H.length + 1 := by simp
  have kg : Keep (fun k => ∃ o, sb.p = some (k, o)) (H ++ [.cells [.int .i64 x] .exact]) (grownH (H ++ [.cells [.int .i64 x] .exact]) sb (intC v.bad ++ [.int .i64 x])) :=
    ⟨by rw [gl]; omega, fun y hy hf => grownH_get hy fun q hq e => hf ⟨q.2, by rw [hq, ← e]⟩⟩
  have cg := kg.get hp.cell (fun ⟨o, ho⟩ => h.d3.2.1 o ho)
  generalize eG : grownH (H ++ [.cells [.int .i64 x] .exact]) sb (intC v.bad ++ [.int .i64 x]) = G at a1 a2 gl kg cg
  have kp : Keep (fun k => k = z.w) G (G.set z.w (.cells ((wcells z a e sb).set 3 (.sl 1 ⟨some ((H ++ [Blk.cells [.int .i64 x] .exact]).length, 0), sb.len + 1, sb.len + 1⟩)) .exact)) := Keep.set _ _ _ rfl
  have hnew : ∀ k, k < H.length → ∀ o, (some ((H ++ [Blk.cells [.int .i64 x] .exact]).length, 0) : Option (Nat × Nat)) ≠ some (k, o) := fun k hk o he => by
    have := congrArg (fun y => y.map (·.1)) he
    simp at this
    omega
  refine ⟨_, _, _, a1, wr1_of cg (by decide) (by simp [wcells]), ?_, ?_⟩
  · have n1 := hp.nd.keep kg fun k hk ⟨o, ho⟩ => (h.d1 k hk).2.2.2 o ho
    have n2 := hp.lf.keep kg fun k hk ⟨o, ho⟩ => (h.d2 k hk).2.2 o ho
    exact { nd := n1.keep kp fun k hk hf => (h.d1 k hk).2.1 hf, lf := n2.keep kp fun k hk hf => (h.d2 k hk).1 hf, cell := by rw [set_get (get_lt cg)]; rfl,
            worn := by
              obtain ⟨bk, h1, h2⟩ := hp.worn
              exact ⟨bk, h1, kp.get (kg.get h2 fun ⟨o, ho⟩ => h.d3.2.2 o ho) (Ne.symm h.d3.1)⟩,
            bads := by
              have hi : intC (v.bad ++ [x]) = intC v.bad ++ [.int .i64 x] := by simp [intC]
              show Grown _ 1 _ (intC (v.bad ++ [x]))
              rw [hi]
              exact a2.mono fun q hq => kp.same _ (a2.lt hq) (by
                cases hq
                have := get_lt h.cell
                simp; omega),
            eB := h.eB,
            d1 := fun k hk => ⟨(h.d1 k hk).1, (h.d1 k hk).2.1, (h.d1 k hk).2.2.1, fun o => hnew k (h.nd.own_lt hk) o⟩,
            d2 := fun k hk => ⟨(h.d2 k hk).1, (h.d2 k hk).2.1, fun o => hnew k (h.lf.lt hk) o⟩,
            d3 := ⟨h.d3.1, fun o => hnew _ (get_lt h.cell) o, fun o => hnew _ (h.lt (.inr (.inr (.inr (.inl rfl))))) o⟩,
            nN := fun k hk hf => by
              rcases hk with hk | hk | hk | hk | ⟨o, ho⟩
              · exact h.nN k (.inl hk) hf
              · exact h.nN k (.inr (.inl hk)) hf
              · exact h.nN k (.inr (.inr (.inl hk))) hf
              · exact h.nN k (.inr (.inr (.inr (.inl hk)))) hf
              · exact hnew k (h.NL k hf) o ho,
            NL := fun k hk => by have := h.NL k hk; have := kp.len; omega }
  · have k1 : Keep (fun k => ¬ N k) (H ++ [.cells [.int .i64 x] .exact]) G := kg.mono fun k ⟨o, ho⟩ => h.nN k (.inr (.inr (.inr (.inr ⟨o, ho⟩))))
    have k2 : Keep (fun k => ¬ N k) G _ := kp.mono fun k hk => h.nN k (.inr (.inr (.inl hk)))
    exact ((Keep.push _ _ _).trans k1).trans k2
end
end Ev
