/- The chip: how many actions it did. -/
import Derived.Test.YtfbecginbilemaaSNandG
namespace Ev
open Go (IntKind)
section
variable {H : Heap} {a : NdA} {s : Nd}
theorem nand_did (h : NdAt H a s) : nand_Chip_Did (some (a.c, 0)) H = some ((s.did, ()), H) := by
  unfold nand_Chip_Did
  simp only [Option.isNone_some, cond_f, bind_some, Nat.zero_add, h.rdid]
end
end Ev
