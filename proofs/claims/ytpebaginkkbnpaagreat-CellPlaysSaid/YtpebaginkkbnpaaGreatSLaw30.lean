/- Chapter 30: what its laws have in common. -/
import Derived.Test.YtpebaginkkbnpaaGreatGLaw30
import Derived.Test.YtpebaginkkbnpaaGreatSCellN
import Derived.Test.YtpebaginkkbnpaaGreatSCellD
namespace Ev
open Go (IntKind)

/-! Texts. -/
def textG (s : Bytes) : Nat → Bytes
  | 0 => s
  | k + 1 => textG s k ++ [UInt8.ofNat (7 * (textG s k).length)]
def textF (s : Bytes) (n : Nat) : Bytes := textG (s.take n) (n - (s.take n).length)
theorem textG_len (s : Bytes) : ∀ k, (textG s k).length = s.length + k
  | 0 => rfl
  | k + 1 => by simp only [textG, List.length_append, textG_len s k, List.length_singleton]; omega
theorem textF_len (s : Bytes) (n : Nat) : (textF s n).length = n := by
  unfold textF
  rw [textG_len, List.length_take]; omega
theorem cells_snoc (t : Bytes) (x : UInt8) : cellsOf (t ++ [x]) = cellsOf t ++ [.int .u8 (un x)] := by simp [cellsOf]
theorem text_eq (s : Bytes) (n : Nat) (hn : n ≤ 1000) : law30_text s (n : Int) = some (textF s n, ()) := by
  have hmin : (if (n : Int) < (s.length : Int) then (n : Int) else (s.length : Int)) = ((min n s.length : Nat) : Int) := by
    split <;> omega
  have hsub : subS s 0 ((min n s.length : Nat) : Int) = some (s.take n) := by
    have := sub_of (s := s) (lo := 0) (hi := min n s.length) (by omega) (by omega)
    rw [List.drop_zero] at this
    rw [show s.take n = s.take (min n s.length) by rw [List.take_eq_take_iff]; omega]
    exact this
  have hl := List.length_take (i := n) (l := s)
  have htx : textF s n = textG (s.take n) (n - (s.take n).length) := rfl
  obtain ⟨x, G, l1, t, rfl, g⟩ := loop_rise (step := law30_text.s1 (n : Int)) (n - (s.take n).length)
    (fun i y G => ∃ t, y = (t, ()) ∧ GrowN [] G 1 t (cellsOf (textG (s.take n) i)))
    (fun x G => ∃ t, x = (t, ()) ∧ GrowN [] G 1 t (cellsOf (textF s n)))
    (by
      rintro i _ G hi ⟨t, rfl, g⟩
      left
      have hlen := textG_len (s.take n) i
      have htl : t.len = (textG (s.take n) i).length := by
        have := g.row.len
        rw [cells_len] at this; omega
      have hb : IntKind.wrap .u8 (IntKind.wrap .i64 (7 * (t.len : Int))) = un (UInt8.ofNat (7 * (textG (s.take n) i).length)) := by
        rw [wrap_i64 (by omega) (by omega), htl]
        show IntKind.wrap .u8 (7 * ((textG (s.take n) i).length : Int)) = (((UInt8.ofNat (7 * (textG (s.take n) i).length)).toNat : Nat) : Int)
        rw [UInt8.toNat_ofNat', wrap_u8]
        omega
      obtain ⟨t', G2, b1, b2, b3, b4, _⟩ := g.one (bytes := 1) (new := [.int .u8 (un (UInt8.ofNat (7 * (textG (s.take n) i).length)))]) (by decide) rfl (by omega) (by omega)
      refine ⟨(t', ()), G2, ?_, t', rfl, by rw [textG, cells_snoc]; exact b3⟩
      unfold law30_text.s1
      simp only [decide_eq_true (show (t.len : Int) < (n : Int) by omega), cond_t, hb, b1, b2, bind_some])
    (by
      rintro _ G ⟨t, rfl, g⟩
      have hlen := textG_len (s.take n) (n - (s.take n).length)
      have htl : t.len = (textG (s.take n) (n - (s.take n).length)).length := by
        have := g.row.len
        rw [cells_len] at this; omega
      refine ⟨(t, ()), G, ?_, t, rfl, by rw [htx]; exact g⟩
      unfold law30_text.s1
      simp only [decide_eq_false (show ¬ (t.len : Int) < (n : Int) by omega), cond_f])
    (y := (⟨some (0, 0), (s.take n).length, (s.take n).length⟩, ())) (H := [.cells (cellsOf (s.take n)) .loose]) ⟨_, rfl, ⟨rfl, (by rw [cells_len]; exact (Nat.mul_one _).symm), (fun h => by cases h), (fun a ha => by cases ha; exact ⟨rfl, .inl rfl⟩)⟩, ⟨by simp, fun k hk => by simp at hk⟩, fun a _ => Nat.zero_le _⟩
  have l1' : loopW (law30_text.s1 (n : Int)) (⟨some (([] : Heap).length, 0), (s.take n).length, (s.take n).length⟩, ()) ([] ++ [.cells (cellsOf (s.take n)) .loose]) = some ((t, ()), G) := l1
  unfold law30_text law30_text.on
  simp only [hmin, hsub, bind_some, l1', g.gr.str]
end Ev
