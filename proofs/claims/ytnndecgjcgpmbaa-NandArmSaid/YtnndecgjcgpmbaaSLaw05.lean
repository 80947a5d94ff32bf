/- Chapter 5: what the laws share: texts, shapes, a page there and back. -/
import Derived.Test.YtnndecgjcgpmbaaGLaw05
import Derived.Test.YtnndecgjcgpmbaaSNandM
namespace Ev
open Go (IntKind)

def txt (n : Nat) (c : UInt8) : Bytes := List.replicate n c
theorem rep_u8 (n : Nat) : rep n [C.int .u8 0] = cellsOf (List.replicate n 0) := by
  unfold rep cellsOf
  induction n with
  | zero => rfl
  | succ n ih => rw [List.replicate_succ, List.flatten_cons, ih, List.replicate_succ, List.map_cons]; rfl
theorem cells_set1 (s : Bytes) (j : Nat) (b : UInt8) : (cellsOf s).set j (.int .u8 (b.toNat : Int)) = cellsOf (s.set j b) := by simp [cellsOf, List.map_set]
theorem set_fill (i n : Nat) (c : UInt8) (h : i < n) : (List.replicate i c ++ List.replicate (n - i) (0 : UInt8)).set i c = List.replicate (i + 1) c ++ List.replicate (n - (i + 1)) 0 := by
  rw [List.set_append_right _ _ (by simp), List.length_replicate, Nat.sub_self]
  obtain ⟨m, hm⟩ : ∃ m, n - i = m + 1 := ⟨n - i - 1, by omega⟩
  rw [hm, List.replicate_succ, List.set_cons_zero, show n - (i + 1) = m by omega, List.replicate_succ']
  simp
theorem text_eq (n : Nat) (c : UInt8) (hn : n ≤ 35184372088832) : law05_text (n : Int) (c.toNat : Int) = some (txt n c, ()) := by
  unfold law05_text law05_text.on
  have hm : mkS [] 1 [.int .u8 0] (n : Int) (n : Int) = some (⟨some (0, 0), n, n⟩, [.cells (cellsOf (List.replicate n 0)) .exact]) := by
    unfold mkS
    have : decide (0 ≤ (n : Int) ∧ (n : Int) ≤ (n : Int) ∧ (n : Int).toNat * 1 ≤ maxRow ∧ (n : Int).toNat ≤ maxRow) = true := decide_eq_true ⟨by omega, by omega, by unfold maxRow; omega, by unfold maxRow; omega⟩
    rw [this, cond_t, Int.toNat_natCast, rep_u8]; rfl
  have hl : loopW (law05_text.s1 (n : Int) (c.toNat : Int) (⟨some (0, 0), n, n⟩, [.cells (cellsOf (List.replicate n 0)) .exact])) (0, ()) [.cells (cellsOf (List.replicate n 0)) .exact] = some ((), [.cells (cellsOf (txt n c)) .exact]) := by
    refine loop_for' n (fun i => ((i : Int), ())) (fun i => [.cells (cellsOf (List.replicate i c ++ List.replicate (n - i) 0)) .exact]) rfl (by simp) ?_ ?_
    · intro i hi
      unfold law05_text.s1
      have hat : Sl.at 1 ⟨some (0, 0), n, n⟩ (i : Int) = some (0, i) := by rw [at_of (by omega) (by omega), Int.toNat_natCast]; simp
      have hw : wr [Blk.cells (cellsOf (List.replicate i c ++ List.replicate (n - i) 0)) .exact] 0 i [.int .u8 (c.toNat : Int)] = some [.cells (cellsOf (List.replicate (i + 1) c ++ List.replicate (n - (i + 1)) 0)) .exact] := by
        rw [wr1_of (H := [Blk.cells (cellsOf (List.replicate i c ++ List.replicate (n - i) 0)) .exact]) (b := 0) rfl (by decide) (by simp [cellsOf]; omega), cells_set1, set_fill i n c hi]; rfl
      simp only [decide_eq_true (show (i : Int) < (n : Int) by omega), cond_t, hat, bind_some, hw, wrap_succ (show i < 9223372036854775807 by omega)]
    · unfold law05_text.s1
      simp only [decide_eq_false (show ¬ (n : Int) < (n : Int) by omega), cond_f, Nat.sub_self, List.replicate_zero, List.append_nil, txt]
  have hs : strOf [Blk.cells (cellsOf (txt n c)) .exact] ⟨some (0, 0), n, n⟩ = some (txt n c) := strOf_of (b := 0) rfl (by simp [cellsOf, txt]) (by rw [List.drop_zero, List.take_of_length_le (by simp [cellsOf, txt])])
  simp only [hm, bind_some, hl, hs]

def shape (g : Geo) : Geo := (8 + bitsI .and .i64 g.1 7, 4 + bitsI .and .i64 g.2.1 7, 64 + bitsI .and .i64 g.2.2.1 63, ())
theorem geometry_eq (g : Geo) : law05_Geometry g = some (shape g, ()) := by
  obtain ⟨x, y, z, u⟩ := g
  have b0 := and_ones (k := .i64) (x := x) (m := 7) 3 (by decide) (by decide)
  have b1 := and_ones (k := .i64) (x := y) (m := 7) 3 (by decide) (by decide)
  have b2 := and_ones (k := .i64) (x := z) (m := 63) 6 (by decide) (by decide)
  unfold law05_Geometry law05_Geometry.on
  have r0 : ∀ a b c, ∀ B : Blk, rdI .i64 [Blk.cells [.int .i64 a, .int .i64 b, .int .i64 c] .exact, B] 0 0 = some a := fun _ _ _ _ => rfl
  have r1 : ∀ a b c, ∀ B : Blk, rdI .i64 [Blk.cells [.int .i64 a, .int .i64 b, .int .i64 c] .exact, B] 0 1 = some b := fun _ _ _ _ => rfl
  have r2 : ∀ a b c, ∀ B : Blk, rdI .i64 [Blk.cells [.int .i64 a, .int .i64 b, .int .i64 c] .exact, B] 0 2 = some c := fun _ _ _ _ => rfl
  have w : ∀ (A : Blk) (a b c : Int), wr [A, Blk.cells [.int .i64 0, .int .i64 0, .int .i64 0] .exact] 1 0 [.int .i64 a, .int .i64 b, .int .i64 c] = some [A, Blk.cells [.int .i64 a, .int .i64 b, .int .i64 c] .exact] := fun _ _ _ _ => rfl
  have r3 : ∀ (A : Blk) (a b c : Int), @Eq (Option Geo) (rd [A, Blk.cells [.int .i64 a, .int .i64 b, .int .i64 c] .exact] (.agg [.int .i64, .int .i64, .int .i64]) 1 0) (some (a, b, c, ())) := fun _ _ _ _ => rfl
  have e0 : IntKind.wrap .i64 (8 + bitsI .and .i64 x 7) = 8 + bitsI .and .i64 x 7 := wrap_i64 (by omega) (by omega)
  have e1 : IntKind.wrap .i64 (4 + bitsI .and .i64 y 7) = 4 + bitsI .and .i64 y 7 := wrap_i64 (by omega) (by omega)
  have e2 : IntKind.wrap .i64 (64 + bitsI .and .i64 z 63) = 64 + bitsI .and .i64 z 63 := wrap_i64 (by omega) (by omega)
  simp only [List.nil_append, List.cons_append, List.length_nil, List.length_cons, Nat.zero_add, r0, r1, r2, bind_some, e0, e1, e2, w, r3, shape]
theorem shape_nat (g : Geo) : ∃ B P S : Nat, shape g = ((B : Int), (P : Int), (S : Int), ()) ∧ 8 ≤ B ∧ B ≤ 15 ∧ 4 ≤ P ∧ P ≤ 11 ∧ 64 ≤ S ∧ S ≤ 127 ∧ geoOK ((B : Int), (P : Int), (S : Int), ()) = true := by
  obtain ⟨x, y, z, u⟩ := g
  have b0 := and_ones (k := .i64) (x := x) (m := 7) 3 (by decide) (by decide)
  have b1 := and_ones (k := .i64) (x := y) (m := 7) 3 (by decide) (by decide)
  have b2 := and_ones (k := .i64) (x := z) (m := 63) 6 (by decide) (by decide)
  refine ⟨(8 + bitsI .and .i64 x 7).toNat, (4 + bitsI .and .i64 y 7).toNat, (64 + bitsI .and .i64 z 63).toNat, ?_, by omega, by omega, by omega, by omega, by omega, by omega, decide_eq_true ?_⟩
  · simp only [shape]
    rw [Int.toNat_of_nonneg (by omega), Int.toNat_of_nonneg (by omega), Int.toNat_of_nonneg (by omega)]
  · simp only
    omega

/-- A text that is no erased page's. -/
theorem txt_ne {a : NdA} {d : Bytes} {c : UInt8} (hc : c ≠ 255) : d ++ txt 32 c ≠ fullP a := by
  intro h
  have h1 : c ∈ fullP a := by rw [← h]; simp [txt]
  exact hc (List.eq_of_mem_replicate h1)
theorem txt_ne_nil {d : Bytes} {c : UInt8} : d ++ txt 32 c ≠ [] := by
  intro h
  have := congrArg List.length h
  simp [txt] at this

/-- No faults. -/
theorem cutNow_nil {s : Nd} (h : s.cuts = []) : s.cutNow = none := by unfold Nd.cutNow; rw [h]; rfl
theorem failNow_nil {s : Nd} (h : s.fails = []) : s.failNow = false := by unfold Nd.failNow; rw [h]; exact decide_eq_false List.not_mem_nil
theorem used_false {a : NdA} {s : Nd} {b p : Nat} (h : ∀ q, p ≤ q → q < a.P → s.pages b q = []) : s.used a b p = false := by
  unfold Nd.used
  rw [List.any_eq_false]
  intro q hq
  by_cases h1 : p ≤ q
  · simp [h q h1 (List.mem_range.1 hq)]
  · simp [h1]
theorem used_true {a : NdA} {s : Nd} {b p q : Nat} (h1 : p ≤ q) (h2 : q < a.P) (h3 : s.pages b q ≠ []) : s.used a b p = true := by
  unfold Nd.used
  rw [List.any_eq_true]
  exact ⟨q, List.mem_range.2 h2, by simp [h1, h3]⟩
/-- A page that is written well. -/
theorem program_ok {a : NdA} {s : Nd} {b p : Nat} {t : Bytes} (h1 : s.cutNow = none) (h2 : s.dead b = false) (h3 : s.failNow = false) : s.program a b p t = (0, s.acted.lay a b p t) := by
  unfold Nd.program
  rw [h1]
  simp only [h2, h3]
  rw [if_neg (by simp)]
theorem acted_plain {s : Nd} (h : s.cutNow = none) : s.acted = { s with did := s.did + 1 } := by unfold Nd.acted; rw [h]; simp
theorem erase_ok {a : NdA} {s : Nd} {b : Nat} (h1 : s.cutNow = none) (h2 : s.dead b = false) (h3 : s.failNow = false) : s.erase a b = (0, { s.acted with worn := upd s.worn b (s.worn b + 1) }.clear b a.P) := by
  unfold Nd.erase
  rw [h1]
  simp only [h2, h3]
  rw [if_neg (by simp)]

theorem awake05 : law05_awake = some (true, ()) := by
  unfold law05_awake law05_awake.on
  obtain ⟨H1, a, q1, q2, q3, qB, qP, qS, q4⟩ := new_yes (B := 8) (P := 4) (S := 64) (f := (⟨none, 0, 0⟩, ⟨none, 0, 0⟩, ⟨none, 0, 0⟩, ())) (cuts := []) (fails := []) (bad := []) [] (by decide) (Row.ni [] 3 0) (Row.ni [] 1 0) (Row.ni [] 1 0) (by decide) (by decide) (by decide)
  have hq1 : nand_New (8, 4, 64, ()) (⟨none, 0, 0⟩, ⟨none, 0, 0⟩, ⟨none, 0, 0⟩, ()) [] = some ((some (a.c, 0), 0, ()), H1) := q1
  generalize hs0 : Nd.new [] [] [] = s0 at q2
  have t1 : law05_text 64 7 = some (txt 64 7, ()) := text_eq 64 7 (by decide)
  have t2 : law05_text 32 8 = some (txt 32 8, ()) := text_eq 32 8 (by decide)
  have c0 : s0.cutNow = none := cutNow_nil (by rw [← hs0]; rfl)
  have f0 : s0.failNow = false := failNow_nil (by rw [← hs0]; rfl)
  have d0 : s0.dead 1 = false := by rw [← hs0]; rfl
  have o0 : s0.off = false := by rw [← hs0]; rfl
  have i0 : s0.did = 0 := by rw [← hs0]; rfl
  have p0 : ∀ b p, s0.pages b p = [] := by rw [← hs0]; exact fun _ _ => rfl
  obtain ⟨H2, g1, g2, g3⟩ := nand_program q2 (by rw [i0]; decide) (by rw [← hs0]; intro x hx; cases hx) (b := 1) (p := 0) o0 (by rw [qB]; decide) (by rw [qP]; decide) (d := txt 64 7) (sp := txt 32 8) (by rw [qS]; rfl) rfl (used_false fun q _ _ => p0 1 q)
  rw [program_ok c0 d0 f0] at g1 g2
  have hne := txt_ne (a := a) (d := txt 64 7) (c := 8) (by decide)
  generalize hs1 : s0.acted.lay a 1 0 (txt 64 7 ++ txt 32 8) = s1 at g2
  have o1 : s1.off = false := by rw [← hs1, acted_plain c0]; exact o0
  have i1 : s1.did = 1 := by rw [← hs1, acted_plain c0]; show s0.did + 1 = 1; rw [i0]; rfl
  have p1 : s1.pages 1 0 = txt 64 7 ++ txt 32 8 := by
    rw [← hs1]; simp [Nd.lay, upd2, hne]
  obtain ⟨H3, v1, v2, v3⟩ := nand_read g2 (b := 1) (p := 0) o1 (by rw [qB]; decide) (by rw [qP]; decide) (.inr (by rw [p1, qS]; rfl))
  have hr : s1.read a 1 0 = txt 64 7 ++ txt 32 8 := by unfold Nd.read; rw [p1, if_neg txt_ne_nil]
  rw [hr, qS] at v1
  have hu : s1.used a 1 0 = true := used_true (Nat.le_refl 0) (by rw [qP]; decide) (by rw [p1]; exact txt_ne_nil)
  have v4 := prog_used v2 (b := 1) (p := 0) o1 (by rw [qB]; decide) (by rw [qP]; decide) (d := txt 64 7) (sp := txt 32 8) (by rw [qS]; rfl) rfl hu
  have v5 := nand_did v2
  rw [i1] at v5
  have ta : (txt 64 7 ++ txt 32 8).take 64 = txt 64 7 := List.take_left' rfl
  have tb : (txt 64 7 ++ txt 32 8).drop 64 = txt 32 8 := List.drop_left' rfl
  rw [ta, tb] at v1
  have g1' : nand_Chip_Program (some (a.c, 0)) 1 0 (txt 64 7) (txt 32 8) H1 = some ((0, ()), H2) := g1
  have v1' : nand_Chip_Read (some (a.c, 0)) 1 0 H2 = some ((txt 64 7, txt 32 8, 0, ()), H3) := v1
  have v4' : nand_Chip_Program (some (a.c, 0)) 1 0 (txt 64 7) (txt 32 8) H3 = some ((52, ()), H3) := v4
  simp only [hq1, bind_some, t1, t2, g1', v1', v4', v5, decide_true, cond_t]
end Ev
