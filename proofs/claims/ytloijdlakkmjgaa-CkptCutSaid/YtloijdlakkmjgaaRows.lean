/-
  No cell of these rows narrows 'for every input' (looked for: loops, veiled, ifaces, maps, wideKeys, modest, calm, conditions, laid).
  DERIVED. THE GIVEN ROWS OF THIS SEAT. 9 by the template 'for every input the law returns true; each argument reads behind the call as it read before'; 0 by the template 'total and deterministic' (their statements: YtloijdlakkmjgaaTotals.lean).
  GIVEN WITH THE SEED: the statements are not yours to turn. If you find one false, say at which input.
  Laid BY PROGRAM, IN A SANDBOX (cutbox-rows.mjs): the forced cells as the released guide's own fill.sh prints them over the translation b8743960bdeb951a… (all of the seat's roots in one cut). By AI agents, Wed Nov 11 2026. No macro, syntax, notation, axiom, sorry.
-/
import Derived.Test.YtloijdlakkmjgaaChecked
import GoSem.Claim
import GoSem.ClaimJoined
import GoSem.ClaimMapViews
import Derived.JoinedTies
import Derived.KernelRfl
namespace Go.Proofs.Ytloijdlakkmjgaa
/- THE CELL 'sum', in the pinned program and in every row, IS THE sha256 OF THE DUMP (.gsa) THAT YtloijdlakkmjgaaProg.lean LOADS. Nothing in Lean hashes anything: it is a label: what it is worth is what the hold of that sum in a sandbox is worth. -/
noncomputable def Try.pinned : Pinned := { name := "ytloijdlakkmjgaa", sum := "b8743960bdeb951a76847cec3b3806a831d2f92e4bbd88c13e0439d5e0c966ed", checked := Try.checked }
namespace Rows
def none {H : Type} : Left H := { results := [], args := [] }

/-- 'tinderboxlaw13.WriteCuts': WHATEVER THE INPUT: true; the input reads as it did. -/
def writeCutsSpec : ChangeSpec := { name := "writeCuts", fn := fun _ => fun
  | [d1, d2, d3] => { results := [.lit (.bool true)], args := [d1, d2, d3] }
  | _ => none }
def writeCutsRow : OpenClaim := { program := "ytloijdlakkmjgaa", sum := "b8743960bdeb951a76847cec3b3806a831d2f92e4bbd88c13e0439d5e0c966ed", func := "tinderbox/tinderboxlaw13.WriteCuts", spec := "writeCuts", inPlace := ["internal/abi.NoEscape", "internal/bytealg.MakeNoZero"], apart := false }
def WriteCutsSaid : Prop := writeCutsRow.holds Try.pinned (OpenSpec.ofChange writeCutsSpec)

/-- ITS FALSE NEIGHBOUR: 'it returns false'. Refute it at one input. -/
def writeCutsWrong : ChangeSpec := { name := "writeCuts", fn := fun _ => fun
  | [d1, d2, d3] => { results := [.lit (.bool false)], args := [d1, d2, d3] }
  | _ => none }
def WriteCutsWrongFalsely : Prop := writeCutsRow.holds Try.pinned (OpenSpec.ofChange writeCutsWrong)

/-- 'tinderboxlaw13.WriteBad': WHATEVER THE INPUT: true; the input reads as it did. -/
def writeBadSpec : ChangeSpec := { name := "writeBad", fn := fun _ => fun
  | [d1, d2, d3] => { results := [.lit (.bool true)], args := [d1, d2, d3] }
  | _ => none }
def writeBadRow : OpenClaim := { program := "ytloijdlakkmjgaa", sum := "b8743960bdeb951a76847cec3b3806a831d2f92e4bbd88c13e0439d5e0c966ed", func := "tinderbox/tinderboxlaw13.WriteBad", spec := "writeBad", inPlace := ["internal/abi.NoEscape", "internal/bytealg.MakeNoZero"], apart := false }
def WriteBadSaid : Prop := writeBadRow.holds Try.pinned (OpenSpec.ofChange writeBadSpec)

/-- ITS FALSE NEIGHBOUR: 'it returns false'. Refute it at one input. -/
def writeBadWrong : ChangeSpec := { name := "writeBad", fn := fun _ => fun
  | [d1, d2, d3] => { results := [.lit (.bool false)], args := [d1, d2, d3] }
  | _ => none }
def WriteBadWrongFalsely : Prop := writeBadRow.holds Try.pinned (OpenSpec.ofChange writeBadWrong)

/-- 'tinderboxlaw13.WriteReads': WHATEVER THE INPUT: true; the input reads as it did. -/
def writeReadsSpec : ChangeSpec := { name := "writeReads", fn := fun _ => fun
  | [d1, d2, d3] => { results := [.lit (.bool true)], args := [d1, d2, d3] }
  | _ => none }
def writeReadsRow : OpenClaim := { program := "ytloijdlakkmjgaa", sum := "b8743960bdeb951a76847cec3b3806a831d2f92e4bbd88c13e0439d5e0c966ed", func := "tinderbox/tinderboxlaw13.WriteReads", spec := "writeReads", inPlace := ["internal/abi.NoEscape", "internal/bytealg.MakeNoZero"], apart := false }
def WriteReadsSaid : Prop := writeReadsRow.holds Try.pinned (OpenSpec.ofChange writeReadsSpec)

/-- ITS FALSE NEIGHBOUR: 'it returns false'. Refute it at one input. -/
def writeReadsWrong : ChangeSpec := { name := "writeReads", fn := fun _ => fun
  | [d1, d2, d3] => { results := [.lit (.bool false)], args := [d1, d2, d3] }
  | _ => none }
def WriteReadsWrongFalsely : Prop := writeReadsRow.holds Try.pinned (OpenSpec.ofChange writeReadsWrong)

/-- 'tinderboxlaw13.WriteFull': WHATEVER THE INPUT: true; the input reads as it did. -/
def writeFullSpec : ChangeSpec := { name := "writeFull", fn := fun _ => fun
  | [d1, d2] => { results := [.lit (.bool true)], args := [d1, d2] }
  | _ => none }
def writeFullRow : OpenClaim := { program := "ytloijdlakkmjgaa", sum := "b8743960bdeb951a76847cec3b3806a831d2f92e4bbd88c13e0439d5e0c966ed", func := "tinderbox/tinderboxlaw13.WriteFull", spec := "writeFull", inPlace := ["internal/abi.NoEscape", "internal/bytealg.MakeNoZero"], apart := false }
def WriteFullSaid : Prop := writeFullRow.holds Try.pinned (OpenSpec.ofChange writeFullSpec)

/-- ITS FALSE NEIGHBOUR: 'it returns false'. Refute it at one input. -/
def writeFullWrong : ChangeSpec := { name := "writeFull", fn := fun _ => fun
  | [d1, d2] => { results := [.lit (.bool false)], args := [d1, d2] }
  | _ => none }
def WriteFullWrongFalsely : Prop := writeFullRow.holds Try.pinned (OpenSpec.ofChange writeFullWrong)

/-- 'tinderboxlaw13.WriteNone': WHATEVER THE INPUT: true; the input reads as it did. -/
def writeNoneSpec : ChangeSpec := { name := "writeNone", fn := fun _ => fun
  | [d1, d2] => { results := [.lit (.bool true)], args := [d1, d2] }
  | _ => none }
def writeNoneRow : OpenClaim := { program := "ytloijdlakkmjgaa", sum := "b8743960bdeb951a76847cec3b3806a831d2f92e4bbd88c13e0439d5e0c966ed", func := "tinderbox/tinderboxlaw13.WriteNone", spec := "writeNone", inPlace := ["internal/abi.NoEscape", "internal/bytealg.MakeNoZero"], apart := false }
def WriteNoneSaid : Prop := writeNoneRow.holds Try.pinned (OpenSpec.ofChange writeNoneSpec)

/-- ITS FALSE NEIGHBOUR: 'it returns false'. Refute it at one input. -/
def writeNoneWrong : ChangeSpec := { name := "writeNone", fn := fun _ => fun
  | [d1, d2] => { results := [.lit (.bool false)], args := [d1, d2] }
  | _ => none }
def WriteNoneWrongFalsely : Prop := writeNoneRow.holds Try.pinned (OpenSpec.ofChange writeNoneWrong)

/-- 'tinderboxlaw13.WriteLevels': WHATEVER THE INPUT: true; the input reads as it did. -/
def writeLevelsSpec : ChangeSpec := { name := "writeLevels", fn := fun _ => fun
  | [d1, d2] => { results := [.lit (.bool true)], args := [d1, d2] }
  | _ => none }
def writeLevelsRow : OpenClaim := { program := "ytloijdlakkmjgaa", sum := "b8743960bdeb951a76847cec3b3806a831d2f92e4bbd88c13e0439d5e0c966ed", func := "tinderbox/tinderboxlaw13.WriteLevels", spec := "writeLevels", inPlace := ["internal/abi.NoEscape", "internal/bytealg.MakeNoZero"], apart := false }
def WriteLevelsSaid : Prop := writeLevelsRow.holds Try.pinned (OpenSpec.ofChange writeLevelsSpec)

/-- ITS FALSE NEIGHBOUR: 'it returns false'. Refute it at one input. -/
def writeLevelsWrong : ChangeSpec := { name := "writeLevels", fn := fun _ => fun
  | [d1, d2] => { results := [.lit (.bool false)], args := [d1, d2] }
  | _ => none }
def WriteLevelsWrongFalsely : Prop := writeLevelsRow.holds Try.pinned (OpenSpec.ofChange writeLevelsWrong)

/-- 'tinderboxlaw14.CkptWrites': WHATEVER THE INPUT: true; the input reads as it did. -/
def ckptWritesSpec : ChangeSpec := { name := "ckptWrites", fn := fun _ => fun
  | [d1, d2, d3] => { results := [.lit (.bool true)], args := [d1, d2, d3] }
  | _ => none }
def ckptWritesRow : OpenClaim := { program := "ytloijdlakkmjgaa", sum := "b8743960bdeb951a76847cec3b3806a831d2f92e4bbd88c13e0439d5e0c966ed", func := "tinderbox/tinderboxlaw14.CkptWrites", spec := "ckptWrites", inPlace := ["internal/abi.NoEscape", "internal/bytealg.MakeNoZero"], unfollowed := true, recurses := true, apart := false }
def CkptWritesSaid : Prop := ckptWritesRow.holds Try.pinned (OpenSpec.ofChange ckptWritesSpec)

/-- ITS FALSE NEIGHBOUR: 'it returns false'. Refute it at one input. -/
def ckptWritesWrong : ChangeSpec := { name := "ckptWrites", fn := fun _ => fun
  | [d1, d2, d3] => { results := [.lit (.bool false)], args := [d1, d2, d3] }
  | _ => none }
def CkptWritesWrongFalsely : Prop := ckptWritesRow.holds Try.pinned (OpenSpec.ofChange ckptWritesWrong)

/-- 'tinderboxlaw14.CkptNewest': WHATEVER THE INPUT: true; the input reads as it did. -/
def ckptNewestSpec : ChangeSpec := { name := "ckptNewest", fn := fun _ => fun
  | [d] => { results := [.lit (.bool true)], args := [d] }
  | _ => none }
def ckptNewestRow : OpenClaim := { program := "ytloijdlakkmjgaa", sum := "b8743960bdeb951a76847cec3b3806a831d2f92e4bbd88c13e0439d5e0c966ed", func := "tinderbox/tinderboxlaw14.CkptNewest", spec := "ckptNewest", inPlace := ["internal/abi.NoEscape", "internal/bytealg.MakeNoZero"], unfollowed := true, recurses := true, apart := false }
def CkptNewestSaid : Prop := ckptNewestRow.holds Try.pinned (OpenSpec.ofChange ckptNewestSpec)

/-- ITS FALSE NEIGHBOUR: 'it returns false'. Refute it at one input. -/
def ckptNewestWrong : ChangeSpec := { name := "ckptNewest", fn := fun _ => fun
  | [d] => { results := [.lit (.bool false)], args := [d] }
  | _ => none }
def CkptNewestWrongFalsely : Prop := ckptNewestRow.holds Try.pinned (OpenSpec.ofChange ckptNewestWrong)

/-- 'tinderboxlaw14.CkptCut': WHATEVER THE INPUT: true; the input reads as it did. -/
def ckptCutSpec : ChangeSpec := { name := "ckptCut", fn := fun _ => fun
  | [d1, d2, d3] => { results := [.lit (.bool true)], args := [d1, d2, d3] }
  | _ => none }
def ckptCutRow : OpenClaim := { program := "ytloijdlakkmjgaa", sum := "b8743960bdeb951a76847cec3b3806a831d2f92e4bbd88c13e0439d5e0c966ed", func := "tinderbox/tinderboxlaw14.CkptCut", spec := "ckptCut", inPlace := ["internal/abi.NoEscape", "internal/bytealg.MakeNoZero"], unfollowed := true, recurses := true, apart := false }
def CkptCutSaid : Prop := ckptCutRow.holds Try.pinned (OpenSpec.ofChange ckptCutSpec)

/-- ITS FALSE NEIGHBOUR: 'it returns false'. Refute it at one input. -/
def ckptCutWrong : ChangeSpec := { name := "ckptCut", fn := fun _ => fun
  | [d1, d2, d3] => { results := [.lit (.bool false)], args := [d1, d2, d3] }
  | _ => none }
def CkptCutWrongFalsely : Prop := ckptCutRow.holds Try.pinned (OpenSpec.ofChange ckptCutWrong)

/- THE SECOND FORM. 'bulk': how many values and letters a reading holds, each counted each time it is reached (what is shared counts as often as it is met; a slice's spare places count too). A statement '..UptoSaid' is the law's where the arguments, and the package variables that the reading takes, are together of bulk at most 1048576: NARROWER than '..Said'. Prove '..Said' where nothing that the law and all that it calls make is longer than what came in: it says more and counts as full. Else prove '..UptoSaid'. A law counts once. -/
mutual
def uptoBulk {H : Type} : DataW H → Nat
  | .lit (.string bytes) => bytes.length + 1
  | .lit _ => 1
  | .nil => 1
  | .ptr d => uptoBulk d + 1
  | .slice elems spare => uptoBulkAll elems + uptoBulkAll spare + 1
  | .agg parts => uptoBulkAll parts + 1
  | .iface _ d => uptoBulk d + 1
  | .map entries => uptoBulkEntries entries + 1
  | .held _ => 1
def uptoBulkAll {H : Type} : List (DataW H) → Nat
  | [] => 0
  | d :: r => uptoBulk d + uptoBulkAll r
def uptoBulkEntries {H : Type} : List (Lit × DataW H) → Nat
  | [] => 0
  | x :: r => uptoBulkEntry x + uptoBulkEntries r
def uptoBulkEntry {H : Type} : Lit × DataW H → Nat
  | (.string bytes, d) => bytes.length + uptoBulk d + 1
  | (_, d) => uptoBulk d + 1
 end
def uptoSmall : (H : Type) → List (DataW H) → Bool := fun _ ds => decide (uptoBulkAll ds ≤ 1048576)
def OpenSpec.upto (s : _root_.Go.ChangeSpec) : _root_.Go.OpenSpec := { _root_.Go.OpenSpec.ofChange s with cond := some uptoSmall }

/-- 'tinderboxlaw13.WriteCuts', WHERE WHAT IT READS IS OF BULK AT MOST 1048576: true; the input reads as it did. -/
def writeCutsUptoRow : OpenClaim := { program := "ytloijdlakkmjgaa", sum := "b8743960bdeb951a76847cec3b3806a831d2f92e4bbd88c13e0439d5e0c966ed", func := "tinderbox/tinderboxlaw13.WriteCuts", spec := "writeCuts", inPlace := ["internal/abi.NoEscape", "internal/bytealg.MakeNoZero"], apart := false, narrowed := true }
def WriteCutsUptoSaid : Prop := writeCutsUptoRow.holds Try.pinned (OpenSpec.upto writeCutsSpec)

/-- 'tinderboxlaw13.WriteBad', WHERE WHAT IT READS IS OF BULK AT MOST 1048576: true; the input reads as it did. -/
def writeBadUptoRow : OpenClaim := { program := "ytloijdlakkmjgaa", sum := "b8743960bdeb951a76847cec3b3806a831d2f92e4bbd88c13e0439d5e0c966ed", func := "tinderbox/tinderboxlaw13.WriteBad", spec := "writeBad", inPlace := ["internal/abi.NoEscape", "internal/bytealg.MakeNoZero"], apart := false, narrowed := true }
def WriteBadUptoSaid : Prop := writeBadUptoRow.holds Try.pinned (OpenSpec.upto writeBadSpec)

/-- 'tinderboxlaw13.WriteReads', WHERE WHAT IT READS IS OF BULK AT MOST 1048576: true; the input reads as it did. -/
def writeReadsUptoRow : OpenClaim := { program := "ytloijdlakkmjgaa", sum := "b8743960bdeb951a76847cec3b3806a831d2f92e4bbd88c13e0439d5e0c966ed", func := "tinderbox/tinderboxlaw13.WriteReads", spec := "writeReads", inPlace := ["internal/abi.NoEscape", "internal/bytealg.MakeNoZero"], apart := false, narrowed := true }
def WriteReadsUptoSaid : Prop := writeReadsUptoRow.holds Try.pinned (OpenSpec.upto writeReadsSpec)

/-- 'tinderboxlaw13.WriteFull', WHERE WHAT IT READS IS OF BULK AT MOST 1048576: true; the input reads as it did. -/
def writeFullUptoRow : OpenClaim := { program := "ytloijdlakkmjgaa", sum := "b8743960bdeb951a76847cec3b3806a831d2f92e4bbd88c13e0439d5e0c966ed", func := "tinderbox/tinderboxlaw13.WriteFull", spec := "writeFull", inPlace := ["internal/abi.NoEscape", "internal/bytealg.MakeNoZero"], apart := false, narrowed := true }
def WriteFullUptoSaid : Prop := writeFullUptoRow.holds Try.pinned (OpenSpec.upto writeFullSpec)

/-- 'tinderboxlaw13.WriteNone', WHERE WHAT IT READS IS OF BULK AT MOST 1048576: true; the input reads as it did. -/
def writeNoneUptoRow : OpenClaim := { program := "ytloijdlakkmjgaa", sum := "b8743960bdeb951a76847cec3b3806a831d2f92e4bbd88c13e0439d5e0c966ed", func := "tinderbox/tinderboxlaw13.WriteNone", spec := "writeNone", inPlace := ["internal/abi.NoEscape", "internal/bytealg.MakeNoZero"], apart := false, narrowed := true }
def WriteNoneUptoSaid : Prop := writeNoneUptoRow.holds Try.pinned (OpenSpec.upto writeNoneSpec)

/-- 'tinderboxlaw13.WriteLevels', WHERE WHAT IT READS IS OF BULK AT MOST 1048576: true; the input reads as it did. -/
def writeLevelsUptoRow : OpenClaim := { program := "ytloijdlakkmjgaa", sum := "b8743960bdeb951a76847cec3b3806a831d2f92e4bbd88c13e0439d5e0c966ed", func := "tinderbox/tinderboxlaw13.WriteLevels", spec := "writeLevels", inPlace := ["internal/abi.NoEscape", "internal/bytealg.MakeNoZero"], apart := false, narrowed := true }
def WriteLevelsUptoSaid : Prop := writeLevelsUptoRow.holds Try.pinned (OpenSpec.upto writeLevelsSpec)

/-- 'tinderboxlaw14.CkptWrites', WHERE WHAT IT READS IS OF BULK AT MOST 1048576: true; the input reads as it did. -/
def ckptWritesUptoRow : OpenClaim := { program := "ytloijdlakkmjgaa", sum := "b8743960bdeb951a76847cec3b3806a831d2f92e4bbd88c13e0439d5e0c966ed", func := "tinderbox/tinderboxlaw14.CkptWrites", spec := "ckptWrites", inPlace := ["internal/abi.NoEscape", "internal/bytealg.MakeNoZero"], unfollowed := true, recurses := true, apart := false, narrowed := true }
def CkptWritesUptoSaid : Prop := ckptWritesUptoRow.holds Try.pinned (OpenSpec.upto ckptWritesSpec)

/-- 'tinderboxlaw14.CkptNewest', WHERE WHAT IT READS IS OF BULK AT MOST 1048576: true; the input reads as it did. -/
def ckptNewestUptoRow : OpenClaim := { program := "ytloijdlakkmjgaa", sum := "b8743960bdeb951a76847cec3b3806a831d2f92e4bbd88c13e0439d5e0c966ed", func := "tinderbox/tinderboxlaw14.CkptNewest", spec := "ckptNewest", inPlace := ["internal/abi.NoEscape", "internal/bytealg.MakeNoZero"], unfollowed := true, recurses := true, apart := false, narrowed := true }
def CkptNewestUptoSaid : Prop := ckptNewestUptoRow.holds Try.pinned (OpenSpec.upto ckptNewestSpec)

/-- 'tinderboxlaw14.CkptCut', WHERE WHAT IT READS IS OF BULK AT MOST 1048576: true; the input reads as it did. -/
def ckptCutUptoRow : OpenClaim := { program := "ytloijdlakkmjgaa", sum := "b8743960bdeb951a76847cec3b3806a831d2f92e4bbd88c13e0439d5e0c966ed", func := "tinderbox/tinderboxlaw14.CkptCut", spec := "ckptCut", inPlace := ["internal/abi.NoEscape", "internal/bytealg.MakeNoZero"], unfollowed := true, recurses := true, apart := false, narrowed := true }
def CkptCutUptoSaid : Prop := ckptCutUptoRow.holds Try.pinned (OpenSpec.upto ckptCutSpec)

end Rows
end Go.Proofs.Ytloijdlakkmjgaa
