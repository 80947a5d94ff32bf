/- CellNoise: the law. -/
import Derived.Test.YtpebaginkkbnpaaGreatSLaw30n
namespace Ev
open Go (IntKind)

def vA (k : Nat) : UInt8 := UInt8.ofNat (1 + k)
def ksB : List Nat := (List.range 16).map fun i => 5 * i
def noiN (m : Nat) : List Noi := (List.range m).map (mkN 1 1 0 vA) ++ ksB.map (mkN 2 3 1 fun _ => 4)

theorem rows_app {cts : List CT} (l r : List (Tup cts)) : rowsOf cts (l ++ r) = rowsOf cts l ++ rowsOf cts r := by simp [rowsOf]
theorem noiC_snoc (l : List Noi) (x : Noi) : noiC (l ++ [x]) = noiC l ++ [.int .i64 x.1, .int .i64 x.2.1, .int .i64 x.2.2.1, .int .i64 x.2.2.2.1, .int .u8 x.2.2.2.2.1] := rows_snoc (cts := noiT) l x
theorem noi_grow {H0 G : Heap} {t : Sl} {l : List Noi} (g : GrowN H0 G 5 t (noiC l)) : t.len = l.length := by
  have := g.row.len
  have e : (noiC l).length = l.length * 5 := rowsC_length (cts := noiT) l
  omega

theorem noise1 {m : Nat} {x1 : Int} (hm : IntKind.wrap .i64 (5 + (bitsI .and .i64 x1 63)) = (m : Int)) (hm2 : m < 70) : ∃ t G, loopW (law30_CellNoise.s1 x1) (⟨some (0, 0), 0, 0⟩, 0, ()) [Blk.cells [] .exact] = some ((t, ()), G) ∧ GrowN [] G 5 t (noiC ((List.range m).map (mkN 1 1 0 vA))) := by
  obtain ⟨x, G, l1, t, rfl, g⟩ := loop_rise (step := law30_CellNoise.s1 x1) m
    (fun i y G => ∃ t, y = (t, (i : Int), ()) ∧ GrowN [] G 5 t (noiC ((List.range i).map (mkN 1 1 0 vA))))
    (fun x G => ∃ t, x = (t, ()) ∧ GrowN [] G 5 t (noiC ((List.range m).map (mkN 1 1 0 vA))))
    (by
      rintro i _ G hi ⟨t, rfl, g⟩
      left
      have htl := noi_grow g
      rw [List.length_map, List.length_range] at htl
      have hb : IntKind.wrap .u8 (IntKind.wrap .i64 (1 + (i : Int))) = un (vA i) := by
        rw [wrap_i64 (by omega) (by omega)]
        show _ = (((UInt8.ofNat (1 + i)).toNat : Nat) : Int)
        rw [UInt8.toNat_ofNat', wrap_u8]
        omega
      obtain ⟨t', G2, b1, b2, b3, _⟩ := g.one (bytes := 40) (new := [.int .i64 1, .int .i64 1, .int .i64 0, .int .i64 (i : Int), .int .u8 (un (vA i))]) (by decide) rfl (by omega) (by omega)
      refine ⟨(t', ((i + 1 : Nat) : Int), ()), G2, ?_, t', rfl, by rw [List.range_succ, List.map_append, List.map_singleton, noiC_snoc]; exact b3⟩
      unfold law30_CellNoise.s1
      simp only [hm, decide_eq_true (show (i : Int) < (m : Int) by omega), cond_t, hb, b1, b2, bind_some, wrap_succ (show i < 9223372036854775807 by omega)])
    (by
      rintro _ G ⟨t, rfl, g⟩
      refine ⟨(t, ()), G, ?_, t, rfl, g⟩
      unfold law30_CellNoise.s1
      simp only [hm, decide_eq_false (show ¬ (m : Int) < (m : Int) by omega), cond_f])
    (y := (⟨some (0, 0), 0, 0⟩, ((0 : Nat) : Int), ())) (H := [.cells [] .exact]) ⟨_, rfl, GrowN.em (H0 := []) (G := []) (Keep.refl _ _) 5⟩
  exact ⟨t, G, l1, g⟩
theorem noise2 {l : List Noi} {t0 : Sl} {G0 : Heap} (g0 : GrowN [] G0 5 t0 (noiC l)) (hl : l.length < 70) : ∃ t G, loopW law30_CellNoise.s2 (t0, 0, ()) G0 = some ((t, ()), G) ∧ GrowN [] G 5 t (noiC (l ++ ksB.map (mkN 2 3 1 fun _ => 4))) := by
  obtain ⟨x, G, l1, t, rfl, g⟩ := loop_rise (step := law30_CellNoise.s2) 16
    (fun i y G => ∃ t, y = (t, (i : Int), ()) ∧ GrowN [] G 5 t (noiC (l ++ ((List.range i).map fun i => 5 * i).map (mkN 2 3 1 fun _ => 4))))
    (fun x G => ∃ t, x = (t, ()) ∧ GrowN [] G 5 t (noiC (l ++ ksB.map (mkN 2 3 1 fun _ => 4))))
    (by
      rintro i _ G hi ⟨t, rfl, g⟩
      left
      have htl := noi_grow g
      rw [List.length_append, List.length_map, List.length_map, List.length_range] at htl
      have hb : IntKind.wrap .i64 (5 * (i : Int)) = ((5 * i : Nat) : Int) := by rw [wrap_i64 (by omega) (by omega)]; omega
      obtain ⟨t', G2, b1, b2, b3, _⟩ := g.one (bytes := 40) (new := [.int .i64 2, .int .i64 3, .int .i64 1, .int .i64 ((5 * i : Nat) : Int), .int .u8 4]) (by decide) rfl (by omega) (by omega)
      refine ⟨(t', ((i + 1 : Nat) : Int), ()), G2, ?_, t', rfl, by rw [List.range_succ, List.map_append, List.map_append, List.map_singleton, List.map_singleton, ← List.append_assoc, noiC_snoc]; exact b3⟩
      unfold law30_CellNoise.s2
      simp only [decide_eq_true (show (i : Int) < 16 by omega), cond_t, hb, b1, b2, bind_some, wrap_succ (show i < 9223372036854775807 by omega)])
    (by
      rintro _ G ⟨t, rfl, g⟩
      refine ⟨(t, ()), G, ?_, t, rfl, g⟩
      unfold law30_CellNoise.s2
      rfl)
    (y := (t0, ((0 : Nat) : Int), ())) (H := G0) ⟨_, rfl, by rw [List.range_zero, List.map_nil, List.map_nil, List.append_nil]; exact g0⟩
  exact ⟨t, G, l1, g⟩
theorem full64 (G : Heap) : loopW law30_CellNoise.s3 ([], 0, ()) G = some ((List.replicate 64 255, ()), G) := by
  obtain ⟨x, G', l1, rfl, rfl⟩ := loop_rise (step := law30_CellNoise.s3) 64
    (fun i y G' => y = (List.replicate i 255, (i : Int), ()) ∧ G' = G) (fun x G' => x = (List.replicate 64 255, ()) ∧ G' = G)
    (by
      rintro i _ _ hi ⟨rfl, rfl⟩
      refine .inl ⟨_, _, ?_, rfl, rfl⟩
      unfold law30_CellNoise.s3
      have hc : catS (List.replicate i (255 : UInt8)) [255] = some (List.replicate (i + 1) 255) := by
        rw [cat_of (by simp; omega), List.replicate_succ']
      simp only [decide_eq_true (show (i : Int) < 64 by omega), cond_t, hc, bind_some, wrap_succ (show i < 9223372036854775807 by omega)])
    (by
      rintro _ _ ⟨rfl, rfl⟩
      exact ⟨_, _, rfl, rfl, rfl⟩)
    (y := ([], ((0 : Nat) : Int), ())) (H := G) ⟨rfl, rfl⟩
  exact l1

theorem readC_X {q : CeA} {t : Ce} {b p : Int} (o : Bytes × Int × Int) (he : t.s.inE q.a b p = 0) : (readC q t b p o).2.X = (t.turned q).X ∧ (readC q t b p o).2.reads = t.reads + 1 := by
  unfold readC
  rw [if_neg (by simpa using he)]
  split
  · exact ⟨rfl, rfl⟩
  · split <;> exact ⟨rfl, rfl⟩
theorem ksB_ok : (∀ k ∈ ksB, k < 104) ∧ ksB.Nodup := by decide
theorem ksB_sum : sumN (fun k => zb (255 ^^^ if k ∈ ksB then 4 else 0)) 104 = 16 := by decide +kernel
theorem vA_ne : ∀ k, k < 104 → vA k ≠ 0 := by decide +kernel
end Ev
