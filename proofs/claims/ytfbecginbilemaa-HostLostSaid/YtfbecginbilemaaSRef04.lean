/- The reference of chapter 04: its reader. -/
import Derived.Test.YtfbecginbilemaaGRef04
import Derived.Test.YtfbecginbilemaaSCode
namespace Ev
open Go (IntKind)
theorem at_Bytes_eq {s : Bytes} {n : Nat} (hn : n ≤ s.length) : ref04_At_Bytes (s, 0, ()) (n : Int) = some ((s.drop n, 0, ()), s.take n, ()) := by
  unfold ref04_At_Bytes ref04_At_Bytes.on
  have d1 : decide ((n : Int) < 0) = false := decide_eq_false (by omega)
  have d2 : decide ((s.length : Int) < (n : Int)) = false := decide_eq_false (by omega)
  have r1 : ∀ (x : Bytes) (e : Int) (B : Blk), rdI .i64 [Blk.cells [.str x, .int .i64 e] .exact, B] 0 1 = some e := fun _ _ _ => rfl
  have r2 : ∀ (x : Bytes) (e : Int) (B : Blk), rdS [Blk.cells [.str x, .int .i64 e] .exact, B] 0 0 = some x := fun _ _ _ => rfl
  have w1 : ∀ (y : Bytes) (B : Blk), wr [B, Blk.cells [.str [], .int .i64 0] .exact] 1 0 [.str y, .int .i64 0] = some [B, Blk.cells [.str y, .int .i64 0] .exact] := fun _ _ => rfl
  have r3 : ∀ (y : Bytes) (B : Blk), @Eq (Option (Bytes × Int × Unit)) (rd [B, Blk.cells [.str y, .int .i64 0] .exact] (.agg [.str, .int .i64]) 1 0) (some (y, 0, ())) := fun _ _ => rfl
  simp only [List.nil_append, List.cons_append, List.length_nil, List.length_cons, Nat.zero_add, r1, r2, bind_some, decide_true, Bool.not_true, cond_f, d1, d2]
  rw [sub_of hn (Nat.le_refl _), bind_some, show (0 : Int) = ((0 : Nat) : Int) from rfl, sub_of (Nat.zero_le _) hn, bind_some]
  simp only [Int.natCast_zero, w1, r2, r3, bind_some, if_true, List.take_length, List.drop_zero]
theorem at_Fixed_eq {s : Bytes} {n : Nat} (hn : n ≤ s.length) (h8 : n ≤ 8) : ref04_At_Fixed (s, 0, ()) (n : Int) = some ((s.drop n, 0, ()), ((valB (s.take n) : Nat) : Int), ()) := by
  unfold ref04_At_Fixed ref04_At_Fixed.on
  have d1 : decide ((n : Int) < 0) = false := decide_eq_false (by omega)
  have d2 : decide ((8 : Int) < (n : Int)) = false := decide_eq_false (by omega)
  have r1 : ∀ (x : Bytes) (B : Blk), @Eq (Option (Bytes × Int × Unit)) (rd [Blk.cells [.str x, .int .i64 0] .exact, B] (.agg [.str, .int .i64]) 0 0) (some (x, 0, ())) := fun _ _ => rfl
  have w1 : ∀ (y : Bytes) (A B : Blk), wr [A, B, Blk.cells [.str [], .int .i64 0] .exact] 2 0 [.str y, .int .i64 0] = some [A, B, Blk.cells [.str y, .int .i64 0] .exact] := fun _ _ _ => rfl
  have r3 : ∀ (y : Bytes) (A B : Blk), @Eq (Option (Bytes × Int × Unit)) (rd [A, B, Blk.cells [.str y, .int .i64 0] .exact] (.agg [.str, .int .i64]) 2 0) (some (y, 0, ())) := fun _ _ _ => rfl
  have w2 : ∀ (y : Bytes) (A B : Blk), wr [A, Blk.cells [.str [], .int .i64 0] .exact, B] 1 0 [.str y, .int .i64 0] = some [A, Blk.cells [.str y, .int .i64 0] .exact, B] := fun _ _ _ => rfl
  have r4 : ∀ (y : Bytes) (A B : Blk), @Eq (Option (Bytes × Int × Unit)) (rd [A, Blk.cells [.str y, .int .i64 0] .exact, B] (.agg [.str, .int .i64]) 1 0) (some (y, 0, ())) := fun _ _ _ => rfl
  have htl : (s.take n).length = n := by simp; omega
  have hl : ∀ (H : Heap), loopW (ref04_At_Fixed.s1 ((s.drop n, 0, ()), s.take n, ())) (0, (IntKind.wrap .i64 ((List.length (s.take n) : Int) - 1)), ()) H = some ((((valB (s.take n) : Nat) : Int), ()), H) := by
    intro H
    generalize s.take n = t at *
    refine loop_for' t.length (fun i => (((valB (t.drop (t.length - i)) : Nat) : Int), (t.length : Int) - 1 - (i : Int), ())) (fun _ => H) (by simp [valB, wrap_i64 (show -9223372036854775808 ≤ (t.length : Int) - 1 by omega) (by omega)]) rfl ?_ ?_
    · intro i hi
      unfold ref04_At_Fixed.s1
      have hd : decide (0 ≤ (t.length : Int) - 1 - (i : Int)) = true := decide_eq_true (by omega)
      have hix : (t.length : Int) - 1 - (i : Int) = ((t.length - 1 - i : Nat) : Int) := by omega
      have hlt : t.length - 1 - i < t.length := by omega
      have hv := valB_lt (t.drop (t.length - i))
      have hb := t[t.length - 1 - i].toNat_lt
      have hdl : (t.drop (t.length - i)).length = i := by simp; omega
      rw [hdl] at hv
      have hp := pow256 (show i + 1 ≤ 8 by omega)
      rw [Nat.pow_succ] at hp
      have hvs := value_step t (t.length - 1 - i) hlt
      rw [show t.length - 1 - i + 1 = t.length - i by omega] at hvs
      have e1 : IntKind.wrap .u64 ((IntKind.wrap .u64 (((valB (t.drop (t.length - i)) : Nat) : Int) * 256)) + (IntKind.wrap .u64 ((t[t.length - 1 - i].toNat : Nat) : Int))) = ((valB (t.drop (t.length - (i + 1))) : Nat) : Int) := by
        rw [show t.length - (i + 1) = t.length - 1 - i by omega, hvs, wrap_u64, wrap_u64, wrap_u64]; omega
      have e3 : IntKind.wrap .i64 (((t.length - 1 - i : Nat) : Int) - 1) = (t.length : Int) - 1 - ((i + 1 : Nat) : Int) := by rw [wrap_i64 (by omega) (by omega)]; omega
      simp only [hd, cond_t]
      rw [hix, idx_of hlt, bind_some, e1, e3]
    · unfold ref04_At_Fixed.s1
      have hd : decide (0 ≤ (t.length : Int) - 1 - (t.length : Int)) = false := decide_eq_false (by omega)
      simp only [hd, cond_f, Nat.sub_self, List.drop_zero]
  simp only [List.nil_append, List.cons_append, List.length_nil, List.length_cons, Nat.zero_add, r1, bind_some, cond_f, d1, d2, at_Bytes_eq hn, w1, hl, r3, w2, r4]
end Ev
