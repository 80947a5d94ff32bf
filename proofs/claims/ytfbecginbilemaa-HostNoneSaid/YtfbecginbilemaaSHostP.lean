/- The host: what a chip tells of itself. -/
import Derived.Test.YtfbecginbilemaaSHostD
import Derived.Test.YtfbecginbilemaaGLaw32
import Derived.Test.YtfbecginbilemaaSRef01
import Derived.Test.YtfbecginbilemaaSRef04
namespace Ev
open Go (IntKind)

def parOK (s : Bytes) : Bool := decide (crcMore 0 (s.take 20) = valB (s.drop 20)) && decide (valB ((s.drop 15).take 2) = 32)
def parG (s : Bytes) : Geo := ((valB ((s.drop 3).take 4) : Int), (valB ((s.drop 7).take 4) : Int), (valB ((s.drop 11).take 4) : Int), ())
def geoB (g : Geo) : Blk := .cells [.int .i64 g.1, .int .i64 g.2.1, .int .i64 g.2.2.1] .exact
theorem val4 (s : Bytes) (n : Nat) : valB ((s.drop n).take 4) < 4294967296 := by
  have h := valB_lt ((s.drop n).take 4)
  have h2 : ((s.drop n).take 4).length ≤ 4 := by rw [List.length_take]; omega
  have h3 : 256 ^ ((s.drop n).take 4).length ≤ 256 ^ 4 := Nat.pow_le_pow_right (by decide) h2
  exact Nat.lt_of_lt_of_le h h3
theorem host_param_eq (s : Bytes) (hs : s.length = 24) : host_param s = some (parG s, parOK s, ()) := by
  unfold host_param host_param.on
  have kb : ∀ (A : Blk) (s : Bytes), 3 ≤ s.length → code_Reader_Bytes (some (1, 0)) 3 [A, rdr s 0] = some ((s.take 3, ()), [A, rdr (s.drop 3) 0]) := fun A s h => code_Bytes_eq (H := [A, rdr s 0]) (b := 1) (n := 3) rfl h
  have k4 : ∀ (A : Blk) (s : Bytes), 4 ≤ s.length → code_Reader_Fixed (some (1, 0)) 4 [A, rdr s 0] = some ((((valB (s.take 4) : Nat) : Int), ()), [A, rdr (s.drop 4) 0]) := fun A s h => code_RFixed_eq (H := [A, rdr s 0]) (b := 1) (n := 4) rfl h (by decide)
  have k2 : ∀ (A B : Blk) (s : Bytes), 2 ≤ s.length → code_Reader_Fixed (some (1, 0)) 2 [A, rdr s 0, B] = some ((((valB (s.take 2) : Nat) : Int), ()), [A, rdr (s.drop 2) 0, B]) := fun A B s h => code_RFixed_eq (H := [A, rdr s 0, B]) (b := 1) (n := 2) rfl h (by decide)
  have k5 : ∀ (A B C : Blk) (s : Bytes), 4 ≤ s.length → code_Reader_Fixed (some (3, 0)) 4 [A, B, C, rdr s 0] = some ((((valB (s.take 4) : Nat) : Int), ()), [A, B, C, rdr (s.drop 4) 0]) := fun A B C s h => code_RFixed_eq (H := [A, B, C, rdr s 0]) (b := 3) (n := 4) rfl h (by decide)
  have n1 : code_New s [geoB (0, 0, 0, ())] = some ((some (1, 0), ()), [geoB (0, 0, 0, ()), rdr s 0]) := rfl
  have n2 : ∀ (A B C : Blk) (s : Bytes), code_New s [A, B, C] = some ((some (3, 0), ()), [A, B, C, rdr s 0]) := fun _ _ _ _ => rfl
  have q1 : ([] : Heap) ++ [Blk.cells [.int .i64 0, .int .i64 0, .int .i64 0] .exact] = [geoB (0, 0, 0, ())] := rfl
  have q2 : ∀ A B : Blk, [A, B] ++ [Blk.cells [.int .i64 0, .int .i64 0, .int .i64 0] .exact] = [A, B, geoB (0, 0, 0, ())] := fun _ _ => rfl
  have w2 : ∀ (A B : Blk) (g : Geo), wr [A, B, geoB (0, 0, 0, ())] [A, B].length 0 [.int .i64 g.1, .int .i64 g.2.1, .int .i64 g.2.2.1] = some [A, B, geoB g] := fun _ _ _ => rfl
  have rg : ∀ (A B C : Blk) (g : Geo), @Eq (Option Geo) (rd [A, B, geoB g, C] (.agg [.int .i64, .int .i64, .int .i64]) 2 0) (some g) := fun _ _ _ _ => rfl
  have wg : ∀ (A B C : Blk) (g : Geo), wr [geoB (0, 0, 0, ()), A, B, C] ([] : Heap).length 0 [.int .i64 g.1, .int .i64 g.2.1, .int .i64 g.2.2.1] = some [geoB g, A, B, C] := fun _ _ _ _ => rfl
  have rz : ∀ (A B C : Blk) (g : Geo), @Eq (Option Geo) (rd [geoB g, A, B, C] (.agg [.int .i64, .int .i64, .int .i64]) ([] : Heap).length 0) (some g) := fun _ _ _ _ => rfl
  have hw : ∀ n : Nat, n < 4294967296 → IntKind.wrap .i64 (n : Int) = (n : Int) := fun n h => wrap_i64 (by omega) (by omega)
  have v1 := val4 s 3
  have v2 := val4 s 7
  have v3 := val4 s 11
  have t1 := kb (geoB (0, 0, 0, ())) s (by omega)
  have t2 := k4 (geoB (0, 0, 0, ())) (s.drop 3) (by rw [List.length_drop]; omega)
  have t3 := k4 (geoB (0, 0, 0, ())) ((s.drop 3).drop 4) (by simp only [List.length_drop]; omega)
  have t4 := k4 (geoB (0, 0, 0, ())) (((s.drop 3).drop 4).drop 4) (by simp only [List.length_drop]; omega)
  have t5 := fun B => k2 (geoB (0, 0, 0, ())) B ((((s.drop 3).drop 4).drop 4).drop 4) (by simp only [List.length_drop]; omega)
  have hs1 : subS s 0 (IntKind.wrap .i64 ((s.length : Int) - 4)) = some (s.take 20) := by
    rw [hs, show IntKind.wrap .i64 (((24 : Nat) : Int) - 4) = ((20 : Nat) : Int) from by rw [wrap_i64 (by decide) (by decide)]; rfl]
    have := sub_of (s := s) (lo := 0) (hi := 20) (by decide) (by omega)
    rwa [List.drop_zero] at this
  have hs2 : subS s (IntKind.wrap .i64 ((s.length : Int) - 4)) (s.length : Int) = some (s.drop 20) := by
    rw [hs, show IntKind.wrap .i64 (((24 : Nat) : Int) - 4) = ((20 : Nat) : Int) from by rw [wrap_i64 (by decide) (by decide)]; rfl]
    have := sub_of (s := s) (lo := 20) (hi := 24) (by decide) (by omega)
    rwa [List.take_of_length_le (by omega)] at this
  have hc := crc_Sum_eq (s.take 20) (by rw [List.length_take]; omega)
  have hcl := crcMore_lt (c := 0) (s := s.take 20) (by decide)
  have hwu : IntKind.wrap .u64 ((crcMore 0 (s.take 20) : Nat) : Int) = ((crcMore 0 (s.take 20) : Nat) : Int) := by rw [wrap_u64]; omega
  simp only [List.drop_drop, show 3 + 4 = 7 from rfl, show 7 + 4 = 11 from rfl, show 11 + 4 = 15 from rfl] at t2 t3 t4 t5
  have t6 := fun A B C => k5 A B C (s.drop 20) (by rw [List.length_drop]; omega)
  have t7 : (s.drop 20).take 4 = s.drop 20 := List.take_of_length_le (by rw [List.length_drop]; omega)
  have l2 : ∀ A B : Blk, [A, B].length = 2 := fun _ _ => rfl
  have w2' : ∀ (A B : Blk), wr [A, B, geoB (0, 0, 0, ())] 2 0 [.int .i64 (valB ((s.drop 3).take 4) : Int), .int .i64 (valB ((s.drop 7).take 4) : Int), .int .i64 (valB ((s.drop 11).take 4) : Int)] = some [A, B, geoB (parG s)] := fun A B => w2 A B (parG s)
  have wg' : ∀ (A B C : Blk), wr [geoB (0, 0, 0, ()), A, B, C] ([] : Heap).length 0 [.int .i64 (parG s).1, .int .i64 (parG s).2.1, .int .i64 (parG s).2.2.1] = some [geoB (parG s), A, B, C] := fun A B C => wg A B C (parG s)
  simp only [q1, n1, bind_some, t1, t2, t3, t4, q2, l2, hw _ v1, hw _ v2, hw _ v3, w2', t5, hs1, hc, hs2, n2, t6, rg, hwu, t7, wg', rz]
  unfold parOK
  by_cases h1 : crcMore 0 (s.take 20) = valB (s.drop 20)
  · rw [decide_eq_true h1, decide_eq_true (show ((crcMore 0 (s.take 20) : Nat) : Int) = ((valB (s.drop 20) : Nat) : Int) by omega), cond_t, Bool.true_and]
    by_cases h2 : valB ((s.drop 15).take 2) = 32
    · rw [decide_eq_true h2, decide_eq_true (show ((valB ((s.drop 15).take 2) : Nat) : Int) = 32 by omega)]
    · rw [decide_eq_false h2, decide_eq_false (show ¬ ((valB ((s.drop 15).take 2) : Nat) : Int) = 32 by omega)]
  · rw [decide_eq_false h1, decide_eq_false (show ¬ ((crcMore 0 (s.take 20) : Nat) : Int) = ((valB (s.drop 20) : Nat) : Int) by omega), cond_f, Bool.false_and]
/-- The document's answer is the same. -/
theorem right_eq (s : Bytes) (hs : s.length = 24) : law32_right s = some (parOK s, ()) := by
  unfold law32_right law32_right.on
  have s1 := sub_of (s := s) (lo := 3) (hi := 17) (by decide) (by omega)
  have s1' : subS s 3 17 = some ((s.take 17).drop 3) := s1
  have s2 : subS s 20 (s.length : Int) = some (s.drop 20) := by
    have := sub_of (s := s) (lo := 20) (hi := s.length) (by omega) (Nat.le_refl _)
    rwa [List.take_length] at this
  have s3 : subS s 0 20 = some (s.take 20) := by
    have := sub_of (s := s) (lo := 0) (hi := 20) (by decide) (by omega)
    rwa [List.drop_zero] at this
  have a1 := at_Bytes_eq (s := (s.take 17).drop 3) (n := 12) (by rw [List.length_drop, List.length_take]; omega)
  have a2 := at_Fixed_eq (s := ((s.take 17).drop 3).drop 12) (n := 2) (by simp only [List.length_drop, List.length_take]; omega) (by decide)
  have a3 := at_Fixed_eq (s := s.drop 20) (n := 4) (by rw [List.length_drop]; omega) (by decide)
  have a1' : ref04_At_Bytes ((s.take 17).drop 3, 0, ()) 12 = some ((((s.take 17).drop 3).drop 12, 0, ()), ((s.take 17).drop 3).take 12, ()) := a1
  have a2' : ref04_At_Fixed (((s.take 17).drop 3).drop 12, 0, ()) 2 = some (((((s.take 17).drop 3).drop 12).drop 2, 0, ()), ((valB ((((s.take 17).drop 3).drop 12).take 2) : Nat) : Int), ()) := a2
  have a3' : ref04_At_Fixed (s.drop 20, 0, ()) 4 = some (((s.drop 20).drop 4, 0, ()), ((valB ((s.drop 20).take 4) : Nat) : Int), ()) := a3
  have t7 : (s.drop 20).take 4 = s.drop 20 := List.take_of_length_le (by rw [List.length_drop]; omega)
  have t8 : (((s.take 17).drop 3).drop 12).take 2 = (s.drop 15).take 2 := by
    rw [List.drop_drop, List.drop_take, List.take_take]; rfl
  rw [t7] at a3'
  rw [t8] at a2'
  have hc := ref01_Sum_eq (s.take 20) (by rw [List.length_take]; omega)
  have hcl := crcMore_lt (c := 0) (s := s.take 20) (by decide)
  have hwu : IntKind.wrap .u64 ((crcMore 0 (s.take 20) : Nat) : Int) = ((crcMore 0 (s.take 20) : Nat) : Int) := by rw [wrap_u64]; omega
  have ww : ∀ (G : Heap) (t : Bytes), wr (G ++ [Blk.cells [.str [], .int .i64 0] .exact]) G.length 0 [.str t, .int .i64 0] = some (G ++ [Blk.cells [.str t, .int .i64 0] .exact]) := fun G t => by
    rw [wr_last (by decide) (by simp)]; rfl
  have rr : ∀ (G : Heap) (t : Bytes), @Eq (Option (Bytes × Int × Unit)) (rd (G ++ [Blk.cells [.str t, .int .i64 0] .exact]) (.agg [.str, .int .i64]) G.length 0) (some (t, 0, ())) := fun G t => rd_agg_of app_last (by simp) rfl
  simp only [s1', bind_some, ww, rr, a1', a2', s2, a3', s3, hc, hwu]
  unfold parOK
  by_cases h2 : valB ((s.drop 15).take 2) = 32
  · rw [decide_eq_true h2, decide_eq_true (show ((valB ((s.drop 15).take 2) : Nat) : Int) = 32 by omega), cond_t, Bool.and_true]
    by_cases h1 : crcMore 0 (s.take 20) = valB (s.drop 20)
    · rw [decide_eq_true h1, decide_eq_true (show ((valB (s.drop 20) : Nat) : Int) = ((crcMore 0 (s.take 20) : Nat) : Int) by omega)]
    · rw [decide_eq_false h1, decide_eq_false (show ¬ ((valB (s.drop 20) : Nat) : Int) = ((crcMore 0 (s.take 20) : Nat) : Int) by omega)]
  · rw [decide_eq_false h2, decide_eq_false (show ¬ ((valB ((s.drop 15).take 2) : Nat) : Int) = 32 by omega), cond_f, Bool.and_false]
end Ev
