/-
  No cell of these rows narrows 'for every input' (looked for: loops, veiled, ifaces, maps, wideKeys, modest, calm, conditions, laid).
  DERIVED. THE GIVEN ROWS OF THIS SEAT. 4 by the template 'for every input the law returns true; each argument reads behind the call as it read before'; 0 by the template 'total and deterministic' (their statements: YtpebaginkkbnpaaGreatTotals.lean).
  GIVEN WITH THE SEED: the statements are not yours to turn. If you find one false, say at which input.
  Laid BY PROGRAM, IN A SANDBOX (cutbox-rows.mjs): the forced cells as the released guide's own fill.sh prints them over the translation 86c16c78ea62b6ab… (all of the seat's roots in one cut). By AI agents, Wed Nov 11 2026. No macro, syntax, notation, axiom, sorry.
-/
import Derived.Test.YtpebaginkkbnpaaGreatChecked
import GoSem.Claim
import GoSem.ClaimJoined
import GoSem.ClaimMapViews
import Derived.JoinedTies
import Derived.KernelRfl
namespace Go.Proofs.YtpebaginkkbnpaaGreat
/- THE CELL 'sum', in the pinned program and in every row, IS THE sha256 OF THE DUMP (.gsa) THAT YtpebaginkkbnpaaGreatProg.lean LOADS. Nothing in Lean hashes anything: it is a label: what it is worth is what the hold of that sum in a sandbox is worth. -/
noncomputable def Tryz.pinned : Pinned := { name := "ytpebaginkkbnpaagreat", sum := "86c16c78ea62b6ab325458a3a1674f7bf1c341e5a4fde2a514c6837c0cb1505c", checked := Tryz.checked }
namespace Rows
def none {H : Type} : Left H := { results := [], args := [] }

/-- 'tinderboxlaw30.CellNoise': WHATEVER THE INPUT: true; the input reads as it did. -/
def cellNoiseSpec : ChangeSpec := { name := "cellNoise", fn := fun _ => fun
  | [d1, d2] => { results := [.lit (.bool true)], args := [d1, d2] }
  | _ => none }
def cellNoiseRow : OpenClaim := { program := "ytpebaginkkbnpaagreat", sum := "86c16c78ea62b6ab325458a3a1674f7bf1c341e5a4fde2a514c6837c0cb1505c", func := "tinderbox/tinderboxlaw30.CellNoise", spec := "cellNoise", inPlace := ["internal/abi.NoEscape", "internal/bytealg.MakeNoZero"], unfollowed := true, recurses := true, apart := false }
def CellNoiseSaid : Prop := cellNoiseRow.holds Tryz.pinned (OpenSpec.ofChange cellNoiseSpec)

/-- ITS FALSE NEIGHBOUR: 'it returns false'. Refute it at one input. -/
def cellNoiseWrong : ChangeSpec := { name := "cellNoise", fn := fun _ => fun
  | [d1, d2] => { results := [.lit (.bool false)], args := [d1, d2] }
  | _ => none }
def CellNoiseWrongFalsely : Prop := cellNoiseRow.holds Tryz.pinned (OpenSpec.ofChange cellNoiseWrong)

/-- 'tinderboxlaw30.CellHealth': WHATEVER THE INPUT: true; the input reads as it did. -/
def cellHealthSpec : ChangeSpec := { name := "cellHealth", fn := fun _ => fun
  | [d1, d2] => { results := [.lit (.bool true)], args := [d1, d2] }
  | _ => none }
def cellHealthRow : OpenClaim := { program := "ytpebaginkkbnpaagreat", sum := "86c16c78ea62b6ab325458a3a1674f7bf1c341e5a4fde2a514c6837c0cb1505c", func := "tinderbox/tinderboxlaw30.CellHealth", spec := "cellHealth", inPlace := ["internal/abi.NoEscape", "internal/bytealg.MakeNoZero"], unfollowed := true, recurses := true, apart := false }
def CellHealthSaid : Prop := cellHealthRow.holds Tryz.pinned (OpenSpec.ofChange cellHealthSpec)

/-- ITS FALSE NEIGHBOUR: 'it returns false'. Refute it at one input. -/
def cellHealthWrong : ChangeSpec := { name := "cellHealth", fn := fun _ => fun
  | [d1, d2] => { results := [.lit (.bool false)], args := [d1, d2] }
  | _ => none }
def CellHealthWrongFalsely : Prop := cellHealthRow.holds Tryz.pinned (OpenSpec.ofChange cellHealthWrong)

/-- 'tinderboxlaw30.CellPlays': WHATEVER THE INPUT: true; the input reads as it did. -/
def cellPlaysSpec : ChangeSpec := { name := "cellPlays", fn := fun _ => fun
  | [d1, d2, d3] => { results := [.lit (.bool true)], args := [d1, d2, d3] }
  | _ => none }
def cellPlaysRow : OpenClaim := { program := "ytpebaginkkbnpaagreat", sum := "86c16c78ea62b6ab325458a3a1674f7bf1c341e5a4fde2a514c6837c0cb1505c", func := "tinderbox/tinderboxlaw30.CellPlays", spec := "cellPlays", inPlace := ["internal/abi.NoEscape", "internal/bytealg.MakeNoZero"], unfollowed := true, recurses := true, apart := false }
def CellPlaysSaid : Prop := cellPlaysRow.holds Tryz.pinned (OpenSpec.ofChange cellPlaysSpec)

/-- ITS FALSE NEIGHBOUR: 'it returns false'. Refute it at one input. -/
def cellPlaysWrong : ChangeSpec := { name := "cellPlays", fn := fun _ => fun
  | [d1, d2, d3] => { results := [.lit (.bool false)], args := [d1, d2, d3] }
  | _ => none }
def CellPlaysWrongFalsely : Prop := cellPlaysRow.holds Tryz.pinned (OpenSpec.ofChange cellPlaysWrong)

/-- 'tinderboxlaw30.CellNone': WHATEVER THE INPUT: true; the input reads as it did. -/
def cellNoneSpec : ChangeSpec := { name := "cellNone", fn := fun _ => fun
  | [d1, d2, d3] => { results := [.lit (.bool true)], args := [d1, d2, d3] }
  | _ => none }
def cellNoneRow : OpenClaim := { program := "ytpebaginkkbnpaagreat", sum := "86c16c78ea62b6ab325458a3a1674f7bf1c341e5a4fde2a514c6837c0cb1505c", func := "tinderbox/tinderboxlaw30.CellNone", spec := "cellNone", inPlace := ["internal/abi.NoEscape", "internal/bytealg.MakeNoZero"], unfollowed := true, recurses := true, apart := false }
def CellNoneSaid : Prop := cellNoneRow.holds Tryz.pinned (OpenSpec.ofChange cellNoneSpec)

/-- ITS FALSE NEIGHBOUR: 'it returns false'. Refute it at one input. -/
def cellNoneWrong : ChangeSpec := { name := "cellNone", fn := fun _ => fun
  | [d1, d2, d3] => { results := [.lit (.bool false)], args := [d1, d2, d3] }
  | _ => none }
def CellNoneWrongFalsely : Prop := cellNoneRow.holds Tryz.pinned (OpenSpec.ofChange cellNoneWrong)

/- THE SECOND FORM. 'bulk': how many values and letters a reading holds, each counted each time it is reached (what is shared counts as often as it is met; a slice's spare places count too). A statement '..UptoSaid' is the law's where the arguments, and the package variables that the reading takes, are together of bulk at most 1048576: NARROWER than '..Said'. Prove '..Said' where nothing that the law and all that it calls make is longer than what came in: it says more and counts as full. Else prove '..UptoSaid'. A law counts once. -/
mutual
def uptoBulk {H : Type} : DataW H → Nat
  | .lit (.string bytes) => bytes.length + 1
  | .lit _ => 1
  | .nil => 1
  | .ptr d => uptoBulk d + 1
  | .slice elems spare => uptoBulkAll elems + uptoBulkAll spare + 1
  | .agg parts => uptoBulkAll parts + 1
  | .iface _ d => uptoBulk d + 1
  | .map entries => uptoBulkEntries entries + 1
  | .held _ => 1
def uptoBulkAll {H : Type} : List (DataW H) → Nat
  | [] => 0
  | d :: r => uptoBulk d + uptoBulkAll r
def uptoBulkEntries {H : Type} : List (Lit × DataW H) → Nat
  | [] => 0
  | x :: r => uptoBulkEntry x + uptoBulkEntries r
def uptoBulkEntry {H : Type} : Lit × DataW H → Nat
  | (.string bytes, d) => bytes.length + uptoBulk d + 1
  | (_, d) => uptoBulk d + 1
 end
def uptoSmall : (H : Type) → List (DataW H) → Bool := fun _ ds => decide (uptoBulkAll ds ≤ 1048576)
def OpenSpec.upto (s : _root_.Go.ChangeSpec) : _root_.Go.OpenSpec := { _root_.Go.OpenSpec.ofChange s with cond := some uptoSmall }

/-- 'tinderboxlaw30.CellNoise', WHERE WHAT IT READS IS OF BULK AT MOST 1048576: true; the input reads as it did. -/
def cellNoiseUptoRow : OpenClaim := { program := "ytpebaginkkbnpaagreat", sum := "86c16c78ea62b6ab325458a3a1674f7bf1c341e5a4fde2a514c6837c0cb1505c", func := "tinderbox/tinderboxlaw30.CellNoise", spec := "cellNoise", inPlace := ["internal/abi.NoEscape", "internal/bytealg.MakeNoZero"], unfollowed := true, recurses := true, apart := false, narrowed := true }
def CellNoiseUptoSaid : Prop := cellNoiseUptoRow.holds Tryz.pinned (OpenSpec.upto cellNoiseSpec)

/-- 'tinderboxlaw30.CellHealth', WHERE WHAT IT READS IS OF BULK AT MOST 1048576: true; the input reads as it did. -/
def cellHealthUptoRow : OpenClaim := { program := "ytpebaginkkbnpaagreat", sum := "86c16c78ea62b6ab325458a3a1674f7bf1c341e5a4fde2a514c6837c0cb1505c", func := "tinderbox/tinderboxlaw30.CellHealth", spec := "cellHealth", inPlace := ["internal/abi.NoEscape", "internal/bytealg.MakeNoZero"], unfollowed := true, recurses := true, apart := false, narrowed := true }
def CellHealthUptoSaid : Prop := cellHealthUptoRow.holds Tryz.pinned (OpenSpec.upto cellHealthSpec)

/-- 'tinderboxlaw30.CellPlays', WHERE WHAT IT READS IS OF BULK AT MOST 1048576: true; the input reads as it did. -/
def cellPlaysUptoRow : OpenClaim := { program := "ytpebaginkkbnpaagreat", sum := "86c16c78ea62b6ab325458a3a1674f7bf1c341e5a4fde2a514c6837c0cb1505c", func := "tinderbox/tinderboxlaw30.CellPlays", spec := "cellPlays", inPlace := ["internal/abi.NoEscape", "internal/bytealg.MakeNoZero"], unfollowed := true, recurses := true, apart := false, narrowed := true }
def CellPlaysUptoSaid : Prop := cellPlaysUptoRow.holds Tryz.pinned (OpenSpec.upto cellPlaysSpec)

/-- 'tinderboxlaw30.CellNone', WHERE WHAT IT READS IS OF BULK AT MOST 1048576: true; the input reads as it did. -/
def cellNoneUptoRow : OpenClaim := { program := "ytpebaginkkbnpaagreat", sum := "86c16c78ea62b6ab325458a3a1674f7bf1c341e5a4fde2a514c6837c0cb1505c", func := "tinderbox/tinderboxlaw30.CellNone", spec := "cellNone", inPlace := ["internal/abi.NoEscape", "internal/bytealg.MakeNoZero"], unfollowed := true, recurses := true, apart := false, narrowed := true }
def CellNoneUptoSaid : Prop := cellNoneUptoRow.holds Tryz.pinned (OpenSpec.upto cellNoneSpec)

end Rows
end Go.Proofs.YtpebaginkkbnpaaGreat
