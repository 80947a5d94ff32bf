/- The chip: whether its power failed. -/
import Derived.Test.YtfbecginbilemaaSNandG
namespace Ev
open Go (IntKind)
section
variable {H : Heap} {a : NdA} {s : Nd}
theorem nand_off (h : NdAt H a s) : nand_Chip_Off (some (a.c, 0)) H = some ((s.off, ()), H) := by
  unfold nand_Chip_Off
  simp only [Option.isNone_some, cond_f, bind_some, Nat.zero_add, h.roff]
end
end Ev
