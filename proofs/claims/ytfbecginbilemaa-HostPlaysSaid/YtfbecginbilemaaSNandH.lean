/- The chip: New, Arm, Dead, Worn, Geometry, and no chip. -/
import Derived.Test.YtfbecginbilemaaSNandG
namespace Ev
open Go (IntKind)

abbrev Geo := Int × Int × Int × Unit
def geoOK (g : Geo) : Bool := decide (8 ≤ g.1 ∧ g.1 ≤ 32 ∧ 4 ≤ g.2.1 ∧ g.2.1 ≤ 16 ∧ 64 ≤ g.2.2.1 ∧ g.2.2.1 ≤ 256)
theorem nand_Check_eq (g : Geo) : nand_Check g = some (geoOK g, ()) := by
  obtain ⟨x, y, z, u⟩ := g
  have r0 : ∀ a b c, rdI .i64 [Blk.cells [.int .i64 a, .int .i64 b, .int .i64 c] .exact] 0 0 = some a := fun _ _ _ => rfl
  have r1 : ∀ a b c, rdI .i64 [Blk.cells [.int .i64 a, .int .i64 b, .int .i64 c] .exact] 0 1 = some b := fun _ _ _ => rfl
  have r2 : ∀ a b c, rdI .i64 [Blk.cells [.int .i64 a, .int .i64 b, .int .i64 c] .exact] 0 2 = some c := fun _ _ _ => rfl
  unfold nand_Check nand_Check.on geoOK
  simp only [List.nil_append, List.length_nil, r0, r1, r2, bind_some]
  by_cases h1 : 8 ≤ x
  · by_cases h2 : x ≤ 32
    · by_cases h3 : 4 ≤ y
      · by_cases h4 : y ≤ 16
        · by_cases h5 : 64 ≤ z
          · by_cases h6 : z ≤ 256 <;> simp [h1, h2, h3, h4, h5, h6]
          · simp [h1, h2, h3, h4, h5]
        · simp [h1, h2, h3, h4]
      · simp [h1, h2, h3]
    · simp [h1, h2]
  · simp [h1]

section
variable {H : Heap} {a : NdA} {s : Nd}

theorem rd_geo {H : Heap} {k : Nat} {g : Geo} {bk : BK} (h : H[k]? = some (.cells [.int .i64 g.1, .int .i64 g.2.1, .int .i64 g.2.2.1] bk)) : @Eq (Option Geo) (rd H (.agg [.int .i64, .int .i64, .int .i64]) k 0) (some g) := by
  refine rd_agg_of h (by simp) ?_
  simp [Tup.un, CT.un]
  rfl
theorem nand_geometry (h : NdAt H a s) : ∃ H', nand_Chip_Geometry (some (a.c, 0)) H = some ((((a.B : Int), (a.P : Int), (a.S : Int), ()), ()), H') ∧ NdAt H' a s ∧ Keep (fun _ => False) H H' := by
  unfold nand_Chip_Geometry
  have h1 := h.push (Blk.cells [.int .i64 0, .int .i64 0, .int .i64 0] .exact)
  have w1 : wr (H ++ [Blk.cells [.int .i64 0, .int .i64 0, .int .i64 0] .exact]) H.length 0 [.int .i64 (a.B : Int), .int .i64 (a.P : Int), .int .i64 (a.S : Int)] = some (H ++ [Blk.cells [.int .i64 (a.B : Int), .int .i64 (a.P : Int), .int .i64 (a.S : Int)] .exact]) := by
    rw [wr_last (by decide) (by simp)]; rfl
  refine ⟨H ++ [Blk.cells [.int .i64 (a.B : Int), .int .i64 (a.P : Int), .int .i64 (a.S : Int)] .exact], ?_, h.push _, Keep.push _ _ _⟩
  simp only [Option.isNone_some, cond_f, bind_some, h1.rgeo, w1, rd_geo (g := ((a.B : Int), (a.P : Int), (a.S : Int), ())) app_last]
end

/-! No chip. -/
theorem geometry_nil (H : Heap) : ∃ H', nand_Chip_Geometry none H = some (((0, 0, 0, ()), ()), H') ∧ Keep (fun _ => False) H H' := by
  unfold nand_Chip_Geometry
  have w1 : wr (H ++ [Blk.cells [.int .i64 0, .int .i64 0, .int .i64 0] .exact]) H.length 0 [.int .i64 0, .int .i64 0, .int .i64 0] = some (H ++ [Blk.cells [.int .i64 0, .int .i64 0, .int .i64 0] .exact]) := by
    rw [wr_last (by decide) (by decide)]; rfl
  refine ⟨_, ?_, Keep.push _ _ (Blk.cells [.int .i64 0, .int .i64 0, .int .i64 0] .exact)⟩
  simp only [Option.isNone_none, cond_t, w1, bind_some, rd_geo (g := (0, 0, 0, ())) app_last]
end Ev
