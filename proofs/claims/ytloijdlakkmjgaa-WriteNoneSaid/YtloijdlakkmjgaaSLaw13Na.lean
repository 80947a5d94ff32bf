/- Chapter 13: WriteNone. -/
import Derived.Test.YtloijdlakkmjgaaSLaw13F
namespace Ev
open Go (IntKind)

theorem read_none (x : Int) (H : Heap) : ∃ H', write_Writer_Read none x H = some ((tag0, [], 1, ()), H') ∧ Keep (fun _ => False) H H' := by
  have w1 := wr_tag (H ++ [tagB tag0]) H.length tag0 app_last tag0
  have w1' : wr (H ++ [Blk.cells [.int .i64 0, .int .u64 0, .int .i64 0, .int .i64 0, .int .i64 0] .exact]) H.length 0 [.int .i64 0, .int .u64 0, .int .i64 0, .int .i64 0, .int .i64 0] = some ((H ++ [tagB tag0]).set H.length (tagB tag0)) := w1
  have hs : (H ++ [tagB tag0]).set H.length (tagB tag0) = H ++ [tagB tag0] := set_last
  rw [hs] at w1'
  have r1 : @Eq (Option Tg) (rd (H ++ [tagB tag0]) (.agg [.int .i64, .int .u64, .int .i64, .int .i64, .int .i64]) H.length 0) (some tag0) := rd_tag app_last
  refine ⟨H ++ [tagB tag0], ?_, Keep.push _ _ _⟩
  unfold write_Writer_Read
  simp only [Option.isNone_none, cond_t, w1', bind_some, r1]
theorem geo_none (H : Heap) : ∃ H', nand_Chip_Geometry none H = some (((0, 0, 0, ()), ()), H') ∧ Keep (fun _ => False) H H' := by
  unfold nand_Chip_Geometry
  have w1 : wr (H ++ [Blk.cells [.int .i64 0, .int .i64 0, .int .i64 0] .exact]) H.length 0 [.int .i64 0, .int .i64 0, .int .i64 0] = some (H ++ [Blk.cells [.int .i64 0, .int .i64 0, .int .i64 0] .exact]) := by
    rw [wr_last (by decide) (by simp)]; rfl
  refine ⟨H ++ [Blk.cells [.int .i64 0, .int .i64 0, .int .i64 0] .exact], ?_, Keep.push _ _ _⟩
  simp only [Option.isNone_none, cond_t, w1, bind_some, rd_geo (g := ((0 : Int), (0 : Int), (0 : Int), ())) app_last]
theorem new_no1 (p : Ptr) (t : Sl) (H : Heap) : ∃ H', write_New none p t H = some ((none, 1, ()), H') ∧ Keep (fun _ => False) H H' := by
  obtain ⟨H', g1, g2⟩ := geometry_nil H
  refine ⟨H', ?_, g2⟩
  unfold write_New
  simp only [g1, bind_some, decide_true, cond_t]
theorem new_no2 {H : Heap} {a : NdA} {s : Nd} (h : NdAt H a s) (hB : 0 < a.B) (p : Ptr) (t : Sl) (hno : p = none ∨ t.len ≠ a.B) : ∃ H', write_New (some (a.c, 0)) p t H = some ((none, 1, ()), H') ∧ Keep (fun _ => False) H H' := by
  obtain ⟨H', g1, g2, g3⟩ := nand_geometry h
  refine ⟨H', ?_, g3⟩
  unfold write_New
  simp only [g1, bind_some, decide_eq_false (show ¬ (a.B : Int) = 0 by omega), cond_f]
  cases p with
  | none => simp only [Option.isNone_none, cond_t]
  | some p =>
    rcases hno with hh | hh
    · cases hh
    · simp only [Option.isNone_some, cond_f, decide_eq_false (show ¬ (t.len : Int) = (a.B : Int) by omega), Bool.not_false, cond_t]
theorem WriteNone_true (x0 : Geo) (x1 : Int) (_ : ∀ c ∈ Tup.mk [.int .i64, .int .i64, .int .i64] x0, wfC c) (_ : wfC (.int .i64 x1)) : law13_WriteNone x0 x1 = some (true, ()) := by
  unfold law13_WriteNone law13_WriteNone.on
  have q1 : ([] : Heap) ++ [Blk.cells [.int .i64 x0.1, .int .i64 x0.2.1, .int .i64 x0.2.2.1] .exact] = [Blk.cells [.int .i64 x0.1, .int .i64 x0.2.1, .int .i64 x0.2.2.1] .exact] := rfl
  have r1 := rd_geo (H := [Blk.cells [.int .i64 x0.1, .int .i64 x0.2.1, .int .i64 x0.2.2.1] .exact]) (k := ([] : Heap).length) (g := x0) (bk := .exact) rfl
  have eg : (x0.1, x0.2.1, x0.2.2.1, ()) = x0 := rfl
  obtain ⟨H1, a, e, z, b1, b2, b3, ⟨hB0, hB1, hP0, hP1, hS0, hS1⟩, i0, w0⟩ := begun13n [Blk.cells [.int .i64 x0.1, .int .i64 x0.2.1, .int .i64 x0.2.2.1] .exact] x0
  obtain ⟨H2, f, l1, l2, l3, _⟩ := life_new_eq H1 (B := 4) (P := 4) (by decide) (by decide)
  have l1' : life_New 4 4 H1 = some ((some (f.c, 0), 0, ()), H2) := l1
  have t1 : law13_tag 1 = some (tagN 1, ()) := tag_eq (n := 1) (by decide)
  have ap : ∀ H t, write_Writer_Append none t [120] H = some ((0, 1, ()), H ++ [tagB t]) := fun _ _ => rfl
  obtain ⟨H3, d1, d2⟩ := read_none x1 (H2 ++ [tagB (tagN 1)])
  have w8 : wr (H3 ++ [Blk.cells [.int .i64 0, .int .u64 0, .int .i64 0, .int .i64 0, .int .i64 0] .exact]) H3.length 0 [.int .i64 tag0.1, .int .u64 tag0.2.1, .int .i64 tag0.2.2.1, .int .i64 tag0.2.2.2.1, .int .i64 tag0.2.2.2.2.1] = some ((H3 ++ [tagB tag0]).set H3.length (tagB tag0)) := wr_tag (H3 ++ [tagB tag0]) H3.length tag0 app_last tag0
  have hs : (H3 ++ [tagB tag0]).set H3.length (tagB tag0) = H3 ++ [tagB tag0] := set_last
  rw [hs] at w8
  obtain ⟨H4, e1, e2⟩ := new_no1 (some (f.c, 0)) ⟨none, 0, 0⟩ (H3 ++ [tagB tag0])
  have k4 : Keep (fun _ => False) H1 H4 := ((((l3.trans (Keep.push _ _ _)).trans d2).trans (Keep.push _ _ _)).trans e2)
  have m1 : mkS H4 8 [.int .i64 0] 8 8 = some (⟨some (H4.length, 0), 8, 8⟩, H4 ++ [.cells (arrC 8 fun _ => [.int .i64 0]) .exact]) := mkS_of (H := H4) (bytes := 8) (zero := [.int .i64 0]) (n := 8) (by decide) (by decide)
  have n4 := (b2.nd.keep k4 fun _ _ => id).push (.cells (arrC 8 fun _ => [.int .i64 0]) .exact)
  obtain ⟨H5, g1, g2⟩ := new_no2 n4 (by omega) none ⟨some (H4.length, 0), 8, 8⟩ (.inl rfl)
  have m2 : mkS H5 8 [.int .i64 0] 3 3 = some (⟨some (H5.length, 0), 3, 3⟩, H5 ++ [.cells (arrC 3 fun _ => [.int .i64 0]) .exact]) := mkS_of (H := H5) (bytes := 8) (zero := [.int .i64 0]) (n := 3) (by decide) (by decide)
  have n5 := (n4.keep g2 fun _ _ => id).push (.cells (arrC 3 fun _ => [.int .i64 0]) .exact)
  obtain ⟨H6, j1, j2⟩ := new_no2 n5 (by omega) (some (f.c, 0)) ⟨some (H5.length, 0), 3, 3⟩ (.inr (by show 3 ≠ a.B; omega))
  have p1 : ∀ H, write_Writer_Erase none x1 H = some ((1, ()), H) := fun _ => rfl
  have p2 : ∀ H, write_Writer_Life none H = some ((none, ()), H) := fun _ => rfl
  have p3 : ∀ H, write_Writer_Worn none H = some ((⟨none, 0, 0⟩, ()), H) := fun _ => rfl
  have p4 : ∀ H, write_Writer_Bads none H = some ((⟨none, 0, 0⟩, ()), H) := fun _ => rfl
  have p5 : ∀ t H, write_Writer_Wears none t H = some ((⟨none, 0, 0⟩, ()), H) := fun _ _ => rfl
  have z0 : decide (((0 : Nat) : Int) = 0) = true := rfl
  simp only [q1, r1, bind_some, eg, b1, l1', t1, ap, d1, w8, e1, m1, g1, m2, j1, awake13, decide_true, cond_t, p1, p2, p3, p4, p5, Option.isNone_none, z0]
end Ev
