/- CellNoise: the law. -/
import Derived.Test.YtpebaginkkbnpaaGreatSLaw30n
namespace Ev
open Go (IntKind)

def vA (k : Nat) : UInt8 := UInt8.ofNat (1 + k)
def ksB : List Nat := (List.range 16).map fun i => 5 * i
def noiN (m : Nat) : List Noi := (List.range m).map (mkN 1 1 0 vA) ++ ksB.map (mkN 2 3 1 fun _ => 4)

theorem rows_app {cts : List CT} (l r : List (Tup cts)) : rowsOf cts (l ++ r) = rowsOf cts l ++ rowsOf cts r := by simp [rowsOf]
theorem noiC_snoc (l : List Noi) (x : Noi) : noiC (l ++ [x]) = noiC l ++ [.int .i64 x.1, .int .i64 x.2.1, .int .i64 x.2.2.1, .int .i64 x.2.2.2.1, .int .u8 x.2.2.2.2.1] := rows_snoc (cts := noiT) l x
theorem noi_grow {H0 G : Heap} {t : Sl} {l : List Noi} (g : GrowN H0 G 5 t (noiC l)) : t.len = l.length := by
  have := g.row.len
  have e : (noiC l).length = l.length * 5 := rowsC_length (cts := noiT) l
  omega

theorem readC_X {q : CeA} {t : Ce} {b p : Int} (o : Bytes × Int × Int) (he : t.s.inE q.a b p = 0) : (readC q t b p o).2.X = (t.turned q).X ∧ (readC q t b p o).2.reads = t.reads + 1 := by
  unfold readC
  rw [if_neg (by simpa using he)]
  split
  · exact ⟨rfl, rfl⟩
  · split <;> exact ⟨rfl, rfl⟩
theorem ksB_ok : (∀ k ∈ ksB, k < 104) ∧ ksB.Nodup := by decide
theorem ksB_sum : sumN (fun k => zb (255 ^^^ if k ∈ ksB then 4 else 0)) 104 = 16 := by decide +kernel
theorem vA_ne : ∀ k, k < 104 → vA k ≠ 0 := by decide +kernel
end Ev
