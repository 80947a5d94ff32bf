/- tinderboxlaw05.Geometry: a shape that may be. -/
import Derived.Test.YtfbecginbilemaaGLaw05
import Derived.Test.YtfbecginbilemaaSCalm
namespace Ev
open Go (IntKind)

theorem geometry_eq (g : Geo) (H : Heap) : ∃ H', law05_Geometry g H = some ((shape g, ()), H') ∧ Keep (fun _ => False) H H' := by
  obtain ⟨x, y, z, u⟩ := g
  have b0 := and_ones (k := .i64) (x := x) (m := 7) 3 (by decide) (by decide)
  have b1 := and_ones (k := .i64) (x := y) (m := 7) 3 (by decide) (by decide)
  have b2 := and_ones (k := .i64) (x := z) (m := 63) 6 (by decide) (by decide)
  unfold law05_Geometry
  let A : Blk := .cells [.int .i64 x, .int .i64 y, .int .i64 z] .exact
  have k1 : (H ++ [A])[H.length]? = some A := app_last
  have k2 : ((H ++ [A]) ++ [Blk.cells [.int .i64 0, .int .i64 0, .int .i64 0] .exact])[H.length]? = some A := by rw [app_lt (get_lt k1)]; exact k1
  have r0 : rdI .i64 ((H ++ [A]) ++ [Blk.cells [.int .i64 0, .int .i64 0, .int .i64 0] .exact]) H.length 0 = some x := rdI_of k2 rfl
  have r1 : rdI .i64 ((H ++ [A]) ++ [Blk.cells [.int .i64 0, .int .i64 0, .int .i64 0] .exact]) H.length 1 = some y := rdI_of k2 rfl
  have r2 : rdI .i64 ((H ++ [A]) ++ [Blk.cells [.int .i64 0, .int .i64 0, .int .i64 0] .exact]) H.length 2 = some z := rdI_of k2 rfl
  have e0 : IntKind.wrap .i64 (8 + bitsI .and .i64 x 7) = 8 + bitsI .and .i64 x 7 := wrap_i64 (by omega) (by omega)
  have e1 : IntKind.wrap .i64 (4 + bitsI .and .i64 y 7) = 4 + bitsI .and .i64 y 7 := wrap_i64 (by omega) (by omega)
  have e2 : IntKind.wrap .i64 (64 + bitsI .and .i64 z 63) = 64 + bitsI .and .i64 z 63 := wrap_i64 (by omega) (by omega)
  have w : ∀ (a b c : Int), wr ((H ++ [A]) ++ [Blk.cells [.int .i64 0, .int .i64 0, .int .i64 0] .exact]) (H ++ [A]).length 0 [.int .i64 a, .int .i64 b, .int .i64 c] = some ((H ++ [A]) ++ [Blk.cells [.int .i64 a, .int .i64 b, .int .i64 c] .exact]) := by
    intro a b c
    rw [wr_last (by decide) (by simp)]; rfl
  have q : H ++ [Blk.cells [.int .i64 x, .int .i64 y, .int .i64 z] .exact] = H ++ [A] := rfl
  refine ⟨(H ++ [A]) ++ [Blk.cells [.int .i64 (8 + bitsI .and .i64 x 7), .int .i64 (4 + bitsI .and .i64 y 7), .int .i64 (64 + bitsI .and .i64 z 63)] .exact], ?_, (Keep.push _ _ _).trans (Keep.push _ _ _)⟩
  simp only [q, r0, r1, r2, bind_some, e0, e1, e2, w]
  rw [rd_geo (g := (8 + bitsI .and .i64 x 7, 4 + bitsI .and .i64 y 7, 64 + bitsI .and .i64 z 63, ())) app_last]
  rfl
end Ev
