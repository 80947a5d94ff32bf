/-
  No cell of these rows narrows 'for every input' (looked for: loops, veiled, ifaces, maps, wideKeys, modest, calm, conditions, laid).
  DERIVED. THE GIVEN ROWS OF THIS SEAT. 12 by the template 'for every input the law returns true; each argument reads behind the call as it read before'; 0 by the template 'total and deterministic' (their statements: YtboamjjdpmaikaaTotals.lean).
  GIVEN WITH THE SEED: the statements are not yours to turn. If you find one false, say at which input.
  Laid BY PROGRAM, IN A SANDBOX (cutbox-rows.mjs): the forced cells as the released guide's own fill.sh prints them over the translation 9c97f7e4e8d3aaf7… (all of the seat's roots in one cut). By AI agents, Wed Nov 11 2026. No macro, syntax, notation, axiom, sorry.
-/
import Derived.Test.YtboamjjdpmaikaaChecked
import GoSem.Claim
import GoSem.ClaimJoined
import GoSem.ClaimMapViews
import Derived.JoinedTies
import Derived.KernelRfl
namespace Go.Proofs.Ytboamjjdpmaikaa
/- THE CELL 'sum', in the pinned program and in every row, IS THE sha256 OF THE DUMP (.gsa) THAT YtboamjjdpmaikaaProg.lean LOADS. Nothing in Lean hashes anything: it is a label: what it is worth is what the hold of that sum in a sandbox is worth. -/
noncomputable def Try.pinned : Pinned := { name := "ytboamjjdpmaikaa", sum := "9c97f7e4e8d3aaf7a4f855b1cf827a230acbabce4060f430fcb6b6a7435907a2", checked := Try.checked }
namespace Rows
def none {H : Type} : Left H := { results := [], args := [] }

/-- 'tinderboxlaw28.RsEncodes': WHATEVER THE INPUT: true; the input reads as it did. -/
def rsEncodesSpec : ChangeSpec := { name := "rsEncodes", fn := fun _ => fun
  | [d1, d2] => { results := [.lit (.bool true)], args := [d1, d2] }
  | _ => none }
def rsEncodesRow : OpenClaim := { program := "ytboamjjdpmaikaa", sum := "9c97f7e4e8d3aaf7a4f855b1cf827a230acbabce4060f430fcb6b6a7435907a2", func := "tinderbox/tinderboxlaw28.RsEncodes", spec := "rsEncodes", unfollowed := true, recurses := true, apart := false }
def RsEncodesSaid : Prop := rsEncodesRow.holds Try.pinned (OpenSpec.ofChange rsEncodesSpec)

/-- ITS FALSE NEIGHBOUR: 'it returns false'. Refute it at one input. -/
def rsEncodesWrong : ChangeSpec := { name := "rsEncodes", fn := fun _ => fun
  | [d1, d2] => { results := [.lit (.bool false)], args := [d1, d2] }
  | _ => none }
def RsEncodesWrongFalsely : Prop := rsEncodesRow.holds Try.pinned (OpenSpec.ofChange rsEncodesWrong)

/-- 'tinderboxlaw28.RsSigns': WHATEVER THE INPUT: true; the input reads as it did. -/
def rsSignsSpec : ChangeSpec := { name := "rsSigns", fn := fun _ => fun
  | [d1, d2] => { results := [.lit (.bool true)], args := [d1, d2] }
  | _ => none }
def rsSignsRow : OpenClaim := { program := "ytboamjjdpmaikaa", sum := "9c97f7e4e8d3aaf7a4f855b1cf827a230acbabce4060f430fcb6b6a7435907a2", func := "tinderbox/tinderboxlaw28.RsSigns", spec := "rsSigns", unfollowed := true, recurses := true, apart := false }
def RsSignsSaid : Prop := rsSignsRow.holds Try.pinned (OpenSpec.ofChange rsSignsSpec)

/-- ITS FALSE NEIGHBOUR: 'it returns false'. Refute it at one input. -/
def rsSignsWrong : ChangeSpec := { name := "rsSigns", fn := fun _ => fun
  | [d1, d2] => { results := [.lit (.bool false)], args := [d1, d2] }
  | _ => none }
def RsSignsWrongFalsely : Prop := rsSignsRow.holds Try.pinned (OpenSpec.ofChange rsSignsWrong)

/-- 'tinderboxlaw28.RsDecodes': WHATEVER THE INPUT: true; the input reads as it did. -/
def rsDecodesSpec : ChangeSpec := { name := "rsDecodes", fn := fun _ => fun
  | [d1, d2, d3] => { results := [.lit (.bool true)], args := [d1, d2, d3] }
  | _ => none }
def rsDecodesRow : OpenClaim := { program := "ytboamjjdpmaikaa", sum := "9c97f7e4e8d3aaf7a4f855b1cf827a230acbabce4060f430fcb6b6a7435907a2", func := "tinderbox/tinderboxlaw28.RsDecodes", spec := "rsDecodes", unfollowed := true, recurses := true, apart := false }
def RsDecodesSaid : Prop := rsDecodesRow.holds Try.pinned (OpenSpec.ofChange rsDecodesSpec)

/-- ITS FALSE NEIGHBOUR: 'it returns false'. Refute it at one input. -/
def rsDecodesWrong : ChangeSpec := { name := "rsDecodes", fn := fun _ => fun
  | [d1, d2, d3] => { results := [.lit (.bool false)], args := [d1, d2, d3] }
  | _ => none }
def RsDecodesWrongFalsely : Prop := rsDecodesRow.holds Try.pinned (OpenSpec.ofChange rsDecodesWrong)

/-- 'tinderboxlaw28.RsAny': WHATEVER THE INPUT: true; the input reads as it did. -/
def rsAnySpec : ChangeSpec := { name := "rsAny", fn := fun _ => fun
  | [d1, d2, d3] => { results := [.lit (.bool true)], args := [d1, d2, d3] }
  | _ => none }
def rsAnyRow : OpenClaim := { program := "ytboamjjdpmaikaa", sum := "9c97f7e4e8d3aaf7a4f855b1cf827a230acbabce4060f430fcb6b6a7435907a2", func := "tinderbox/tinderboxlaw28.RsAny", spec := "rsAny", unfollowed := true, recurses := true, apart := false }
def RsAnySaid : Prop := rsAnyRow.holds Try.pinned (OpenSpec.ofChange rsAnySpec)

/-- ITS FALSE NEIGHBOUR: 'it returns false'. Refute it at one input. -/
def rsAnyWrong : ChangeSpec := { name := "rsAny", fn := fun _ => fun
  | [d1, d2, d3] => { results := [.lit (.bool false)], args := [d1, d2, d3] }
  | _ => none }
def RsAnyWrongFalsely : Prop := rsAnyRow.holds Try.pinned (OpenSpec.ofChange rsAnyWrong)

/-- 'tinderboxlaw28.RsOne': WHATEVER THE INPUT: true; the input reads as it did. -/
def rsOneSpec : ChangeSpec := { name := "rsOne", fn := fun _ => fun
  | [d] => { results := [.lit (.bool true)], args := [d] }
  | _ => none }
def rsOneRow : OpenClaim := { program := "ytboamjjdpmaikaa", sum := "9c97f7e4e8d3aaf7a4f855b1cf827a230acbabce4060f430fcb6b6a7435907a2", func := "tinderbox/tinderboxlaw28.RsOne", spec := "rsOne", unfollowed := true, recurses := true, apart := false }
def RsOneSaid : Prop := rsOneRow.holds Try.pinned (OpenSpec.ofChange rsOneSpec)

/-- ITS FALSE NEIGHBOUR: 'it returns false'. Refute it at one input. -/
def rsOneWrong : ChangeSpec := { name := "rsOne", fn := fun _ => fun
  | [d] => { results := [.lit (.bool false)], args := [d] }
  | _ => none }
def RsOneWrongFalsely : Prop := rsOneRow.holds Try.pinned (OpenSpec.ofChange rsOneWrong)

/-- 'tinderboxlaw28.RsFar': WHATEVER THE INPUT: true; the input reads as it did. -/
def rsFarSpec : ChangeSpec := { name := "rsFar", fn := fun _ => fun
  | [d1, d2, d3] => { results := [.lit (.bool true)], args := [d1, d2, d3] }
  | _ => none }
def rsFarRow : OpenClaim := { program := "ytboamjjdpmaikaa", sum := "9c97f7e4e8d3aaf7a4f855b1cf827a230acbabce4060f430fcb6b6a7435907a2", func := "tinderbox/tinderboxlaw28.RsFar", spec := "rsFar", unfollowed := true, recurses := true, apart := false }
def RsFarSaid : Prop := rsFarRow.holds Try.pinned (OpenSpec.ofChange rsFarSpec)

/-- ITS FALSE NEIGHBOUR: 'it returns false'. Refute it at one input. -/
def rsFarWrong : ChangeSpec := { name := "rsFar", fn := fun _ => fun
  | [d1, d2, d3] => { results := [.lit (.bool false)], args := [d1, d2, d3] }
  | _ => none }
def RsFarWrongFalsely : Prop := rsFarRow.holds Try.pinned (OpenSpec.ofChange rsFarWrong)

/-- 'tinderboxlaw29.WeaveShapes': WHATEVER THE INPUT: true; the input reads as it did. -/
def weaveShapesSpec : ChangeSpec := { name := "weaveShapes", fn := fun _ => fun
  | [d1, d2] => { results := [.lit (.bool true)], args := [d1, d2] }
  | _ => none }
def weaveShapesRow : OpenClaim := { program := "ytboamjjdpmaikaa", sum := "9c97f7e4e8d3aaf7a4f855b1cf827a230acbabce4060f430fcb6b6a7435907a2", func := "tinderbox/tinderboxlaw29.WeaveShapes", spec := "weaveShapes", inPlace := ["internal/abi.NoEscape"], unfollowed := true, recurses := true, apart := false }
def WeaveShapesSaid : Prop := weaveShapesRow.holds Try.pinned (OpenSpec.ofChange weaveShapesSpec)

/-- ITS FALSE NEIGHBOUR: 'it returns false'. Refute it at one input. -/
def weaveShapesWrong : ChangeSpec := { name := "weaveShapes", fn := fun _ => fun
  | [d1, d2] => { results := [.lit (.bool false)], args := [d1, d2] }
  | _ => none }
def WeaveShapesWrongFalsely : Prop := weaveShapesRow.holds Try.pinned (OpenSpec.ofChange weaveShapesWrong)

/-- 'tinderboxlaw29.WeaveMasks': WHATEVER THE INPUT: true; the input reads as it did. -/
def weaveMasksSpec : ChangeSpec := { name := "weaveMasks", fn := fun _ => fun
  | [d1, d2, d3] => { results := [.lit (.bool true)], args := [d1, d2, d3] }
  | _ => none }
def weaveMasksRow : OpenClaim := { program := "ytboamjjdpmaikaa", sum := "9c97f7e4e8d3aaf7a4f855b1cf827a230acbabce4060f430fcb6b6a7435907a2", func := "tinderbox/tinderboxlaw29.WeaveMasks", spec := "weaveMasks", inPlace := ["internal/abi.NoEscape"], unfollowed := true, recurses := true, apart := false }
def WeaveMasksSaid : Prop := weaveMasksRow.holds Try.pinned (OpenSpec.ofChange weaveMasksSpec)

/-- ITS FALSE NEIGHBOUR: 'it returns false'. Refute it at one input. -/
def weaveMasksWrong : ChangeSpec := { name := "weaveMasks", fn := fun _ => fun
  | [d1, d2, d3] => { results := [.lit (.bool false)], args := [d1, d2, d3] }
  | _ => none }
def WeaveMasksWrongFalsely : Prop := weaveMasksRow.holds Try.pinned (OpenSpec.ofChange weaveMasksWrong)

/-- 'tinderboxlaw29.WeaveKeeps': WHATEVER THE INPUT: true; the input reads as it did. -/
def weaveKeepsSpec : ChangeSpec := { name := "weaveKeeps", fn := fun _ => fun
  | [d1, d2, d3] => { results := [.lit (.bool true)], args := [d1, d2, d3] }
  | _ => none }
def weaveKeepsRow : OpenClaim := { program := "ytboamjjdpmaikaa", sum := "9c97f7e4e8d3aaf7a4f855b1cf827a230acbabce4060f430fcb6b6a7435907a2", func := "tinderbox/tinderboxlaw29.WeaveKeeps", spec := "weaveKeeps", inPlace := ["internal/abi.NoEscape"], unfollowed := true, recurses := true, apart := false }
def WeaveKeepsSaid : Prop := weaveKeepsRow.holds Try.pinned (OpenSpec.ofChange weaveKeepsSpec)

/-- ITS FALSE NEIGHBOUR: 'it returns false'. Refute it at one input. -/
def weaveKeepsWrong : ChangeSpec := { name := "weaveKeeps", fn := fun _ => fun
  | [d1, d2, d3] => { results := [.lit (.bool false)], args := [d1, d2, d3] }
  | _ => none }
def WeaveKeepsWrongFalsely : Prop := weaveKeepsRow.holds Try.pinned (OpenSpec.ofChange weaveKeepsWrong)

/-- 'tinderboxlaw29.WeaveBursts': WHATEVER THE INPUT: true; the input reads as it did. -/
def weaveBurstsSpec : ChangeSpec := { name := "weaveBursts", fn := fun _ => fun
  | [d1, d2, d3] => { results := [.lit (.bool true)], args := [d1, d2, d3] }
  | _ => none }
def weaveBurstsRow : OpenClaim := { program := "ytboamjjdpmaikaa", sum := "9c97f7e4e8d3aaf7a4f855b1cf827a230acbabce4060f430fcb6b6a7435907a2", func := "tinderbox/tinderboxlaw29.WeaveBursts", spec := "weaveBursts", inPlace := ["internal/abi.NoEscape"], unfollowed := true, recurses := true, apart := false }
def WeaveBurstsSaid : Prop := weaveBurstsRow.holds Try.pinned (OpenSpec.ofChange weaveBurstsSpec)

/-- ITS FALSE NEIGHBOUR: 'it returns false'. Refute it at one input. -/
def weaveBurstsWrong : ChangeSpec := { name := "weaveBursts", fn := fun _ => fun
  | [d1, d2, d3] => { results := [.lit (.bool false)], args := [d1, d2, d3] }
  | _ => none }
def WeaveBurstsWrongFalsely : Prop := weaveBurstsRow.holds Try.pinned (OpenSpec.ofChange weaveBurstsWrong)

/-- 'tinderboxlaw29.WeaveLost': WHATEVER THE INPUT: true; the input reads as it did. -/
def weaveLostSpec : ChangeSpec := { name := "weaveLost", fn := fun _ => fun
  | [d1, d2, d3] => { results := [.lit (.bool true)], args := [d1, d2, d3] }
  | _ => none }
def weaveLostRow : OpenClaim := { program := "ytboamjjdpmaikaa", sum := "9c97f7e4e8d3aaf7a4f855b1cf827a230acbabce4060f430fcb6b6a7435907a2", func := "tinderbox/tinderboxlaw29.WeaveLost", spec := "weaveLost", inPlace := ["internal/abi.NoEscape"], unfollowed := true, recurses := true, apart := false }
def WeaveLostSaid : Prop := weaveLostRow.holds Try.pinned (OpenSpec.ofChange weaveLostSpec)

/-- ITS FALSE NEIGHBOUR: 'it returns false'. Refute it at one input. -/
def weaveLostWrong : ChangeSpec := { name := "weaveLost", fn := fun _ => fun
  | [d1, d2, d3] => { results := [.lit (.bool false)], args := [d1, d2, d3] }
  | _ => none }
def WeaveLostWrongFalsely : Prop := weaveLostRow.holds Try.pinned (OpenSpec.ofChange weaveLostWrong)

/-- 'tinderboxlaw29.WeaveErased': WHATEVER THE INPUT: true; the input reads as it did. -/
def weaveErasedSpec : ChangeSpec := { name := "weaveErased", fn := fun _ => fun
  | [d1, d2] => { results := [.lit (.bool true)], args := [d1, d2] }
  | _ => none }
def weaveErasedRow : OpenClaim := { program := "ytboamjjdpmaikaa", sum := "9c97f7e4e8d3aaf7a4f855b1cf827a230acbabce4060f430fcb6b6a7435907a2", func := "tinderbox/tinderboxlaw29.WeaveErased", spec := "weaveErased", inPlace := ["internal/abi.NoEscape"], unfollowed := true, recurses := true, apart := false }
def WeaveErasedSaid : Prop := weaveErasedRow.holds Try.pinned (OpenSpec.ofChange weaveErasedSpec)

/-- ITS FALSE NEIGHBOUR: 'it returns false'. Refute it at one input. -/
def weaveErasedWrong : ChangeSpec := { name := "weaveErased", fn := fun _ => fun
  | [d1, d2] => { results := [.lit (.bool false)], args := [d1, d2] }
  | _ => none }
def WeaveErasedWrongFalsely : Prop := weaveErasedRow.holds Try.pinned (OpenSpec.ofChange weaveErasedWrong)

/- THE SECOND FORM. 'bulk': how many values and letters a reading holds, each counted each time it is reached (what is shared counts as often as it is met; a slice's spare places count too). A statement '..UptoSaid' is the law's where the arguments, and the package variables that the reading takes, are together of bulk at most 1048576: NARROWER than '..Said'. Prove '..Said' where nothing that the law and all that it calls make is longer than what came in: it says more and counts as full. Else prove '..UptoSaid'. A law counts once. -/
mutual
def uptoBulk {H : Type} : DataW H → Nat
  | .lit (.string bytes) => bytes.length + 1
  | .lit _ => 1
  | .nil => 1
  | .ptr d => uptoBulk d + 1
  | .slice elems spare => uptoBulkAll elems + uptoBulkAll spare + 1
  | .agg parts => uptoBulkAll parts + 1
  | .iface _ d => uptoBulk d + 1
  | .map entries => uptoBulkEntries entries + 1
  | .held _ => 1
def uptoBulkAll {H : Type} : List (DataW H) → Nat
  | [] => 0
  | d :: r => uptoBulk d + uptoBulkAll r
def uptoBulkEntries {H : Type} : List (Lit × DataW H) → Nat
  | [] => 0
  | x :: r => uptoBulkEntry x + uptoBulkEntries r
def uptoBulkEntry {H : Type} : Lit × DataW H → Nat
  | (.string bytes, d) => bytes.length + uptoBulk d + 1
  | (_, d) => uptoBulk d + 1
 end
def uptoSmall : (H : Type) → List (DataW H) → Bool := fun _ ds => decide (uptoBulkAll ds ≤ 1048576)
def OpenSpec.upto (s : _root_.Go.ChangeSpec) : _root_.Go.OpenSpec := { _root_.Go.OpenSpec.ofChange s with cond := some uptoSmall }

/-- 'tinderboxlaw28.RsEncodes', WHERE WHAT IT READS IS OF BULK AT MOST 1048576: true; the input reads as it did. -/
def rsEncodesUptoRow : OpenClaim := { program := "ytboamjjdpmaikaa", sum := "9c97f7e4e8d3aaf7a4f855b1cf827a230acbabce4060f430fcb6b6a7435907a2", func := "tinderbox/tinderboxlaw28.RsEncodes", spec := "rsEncodes", unfollowed := true, recurses := true, apart := false, narrowed := true }
def RsEncodesUptoSaid : Prop := rsEncodesUptoRow.holds Try.pinned (OpenSpec.upto rsEncodesSpec)

/-- 'tinderboxlaw28.RsSigns', WHERE WHAT IT READS IS OF BULK AT MOST 1048576: true; the input reads as it did. -/
def rsSignsUptoRow : OpenClaim := { program := "ytboamjjdpmaikaa", sum := "9c97f7e4e8d3aaf7a4f855b1cf827a230acbabce4060f430fcb6b6a7435907a2", func := "tinderbox/tinderboxlaw28.RsSigns", spec := "rsSigns", unfollowed := true, recurses := true, apart := false, narrowed := true }
def RsSignsUptoSaid : Prop := rsSignsUptoRow.holds Try.pinned (OpenSpec.upto rsSignsSpec)

/-- 'tinderboxlaw28.RsDecodes', WHERE WHAT IT READS IS OF BULK AT MOST 1048576: true; the input reads as it did. -/
def rsDecodesUptoRow : OpenClaim := { program := "ytboamjjdpmaikaa", sum := "9c97f7e4e8d3aaf7a4f855b1cf827a230acbabce4060f430fcb6b6a7435907a2", func := "tinderbox/tinderboxlaw28.RsDecodes", spec := "rsDecodes", unfollowed := true, recurses := true, apart := false, narrowed := true }
def RsDecodesUptoSaid : Prop := rsDecodesUptoRow.holds Try.pinned (OpenSpec.upto rsDecodesSpec)

/-- 'tinderboxlaw28.RsAny', WHERE WHAT IT READS IS OF BULK AT MOST 1048576: true; the input reads as it did. -/
def rsAnyUptoRow : OpenClaim := { program := "ytboamjjdpmaikaa", sum := "9c97f7e4e8d3aaf7a4f855b1cf827a230acbabce4060f430fcb6b6a7435907a2", func := "tinderbox/tinderboxlaw28.RsAny", spec := "rsAny", unfollowed := true, recurses := true, apart := false, narrowed := true }
def RsAnyUptoSaid : Prop := rsAnyUptoRow.holds Try.pinned (OpenSpec.upto rsAnySpec)

/-- 'tinderboxlaw28.RsOne', WHERE WHAT IT READS IS OF BULK AT MOST 1048576: true; the input reads as it did. -/
def rsOneUptoRow : OpenClaim := { program := "ytboamjjdpmaikaa", sum := "9c97f7e4e8d3aaf7a4f855b1cf827a230acbabce4060f430fcb6b6a7435907a2", func := "tinderbox/tinderboxlaw28.RsOne", spec := "rsOne", unfollowed := true, recurses := true, apart := false, narrowed := true }
def RsOneUptoSaid : Prop := rsOneUptoRow.holds Try.pinned (OpenSpec.upto rsOneSpec)

/-- 'tinderboxlaw28.RsFar', WHERE WHAT IT READS IS OF BULK AT MOST 1048576: true; the input reads as it did. -/
def rsFarUptoRow : OpenClaim := { program := "ytboamjjdpmaikaa", sum := "9c97f7e4e8d3aaf7a4f855b1cf827a230acbabce4060f430fcb6b6a7435907a2", func := "tinderbox/tinderboxlaw28.RsFar", spec := "rsFar", unfollowed := true, recurses := true, apart := false, narrowed := true }
def RsFarUptoSaid : Prop := rsFarUptoRow.holds Try.pinned (OpenSpec.upto rsFarSpec)

/-- 'tinderboxlaw29.WeaveShapes', WHERE WHAT IT READS IS OF BULK AT MOST 1048576: true; the input reads as it did. -/
def weaveShapesUptoRow : OpenClaim := { program := "ytboamjjdpmaikaa", sum := "9c97f7e4e8d3aaf7a4f855b1cf827a230acbabce4060f430fcb6b6a7435907a2", func := "tinderbox/tinderboxlaw29.WeaveShapes", spec := "weaveShapes", inPlace := ["internal/abi.NoEscape"], unfollowed := true, recurses := true, apart := false, narrowed := true }
def WeaveShapesUptoSaid : Prop := weaveShapesUptoRow.holds Try.pinned (OpenSpec.upto weaveShapesSpec)

/-- 'tinderboxlaw29.WeaveMasks', WHERE WHAT IT READS IS OF BULK AT MOST 1048576: true; the input reads as it did. -/
def weaveMasksUptoRow : OpenClaim := { program := "ytboamjjdpmaikaa", sum := "9c97f7e4e8d3aaf7a4f855b1cf827a230acbabce4060f430fcb6b6a7435907a2", func := "tinderbox/tinderboxlaw29.WeaveMasks", spec := "weaveMasks", inPlace := ["internal/abi.NoEscape"], unfollowed := true, recurses := true, apart := false, narrowed := true }
def WeaveMasksUptoSaid : Prop := weaveMasksUptoRow.holds Try.pinned (OpenSpec.upto weaveMasksSpec)

/-- 'tinderboxlaw29.WeaveKeeps', WHERE WHAT IT READS IS OF BULK AT MOST 1048576: true; the input reads as it did. -/
def weaveKeepsUptoRow : OpenClaim := { program := "ytboamjjdpmaikaa", sum := "9c97f7e4e8d3aaf7a4f855b1cf827a230acbabce4060f430fcb6b6a7435907a2", func := "tinderbox/tinderboxlaw29.WeaveKeeps", spec := "weaveKeeps", inPlace := ["internal/abi.NoEscape"], unfollowed := true, recurses := true, apart := false, narrowed := true }
def WeaveKeepsUptoSaid : Prop := weaveKeepsUptoRow.holds Try.pinned (OpenSpec.upto weaveKeepsSpec)

/-- 'tinderboxlaw29.WeaveBursts', WHERE WHAT IT READS IS OF BULK AT MOST 1048576: true; the input reads as it did. -/
def weaveBurstsUptoRow : OpenClaim := { program := "ytboamjjdpmaikaa", sum := "9c97f7e4e8d3aaf7a4f855b1cf827a230acbabce4060f430fcb6b6a7435907a2", func := "tinderbox/tinderboxlaw29.WeaveBursts", spec := "weaveBursts", inPlace := ["internal/abi.NoEscape"], unfollowed := true, recurses := true, apart := false, narrowed := true }
def WeaveBurstsUptoSaid : Prop := weaveBurstsUptoRow.holds Try.pinned (OpenSpec.upto weaveBurstsSpec)

/-- 'tinderboxlaw29.WeaveLost', WHERE WHAT IT READS IS OF BULK AT MOST 1048576: true; the input reads as it did. -/
def weaveLostUptoRow : OpenClaim := { program := "ytboamjjdpmaikaa", sum := "9c97f7e4e8d3aaf7a4f855b1cf827a230acbabce4060f430fcb6b6a7435907a2", func := "tinderbox/tinderboxlaw29.WeaveLost", spec := "weaveLost", inPlace := ["internal/abi.NoEscape"], unfollowed := true, recurses := true, apart := false, narrowed := true }
def WeaveLostUptoSaid : Prop := weaveLostUptoRow.holds Try.pinned (OpenSpec.upto weaveLostSpec)

/-- 'tinderboxlaw29.WeaveErased', WHERE WHAT IT READS IS OF BULK AT MOST 1048576: true; the input reads as it did. -/
def weaveErasedUptoRow : OpenClaim := { program := "ytboamjjdpmaikaa", sum := "9c97f7e4e8d3aaf7a4f855b1cf827a230acbabce4060f430fcb6b6a7435907a2", func := "tinderbox/tinderboxlaw29.WeaveErased", spec := "weaveErased", inPlace := ["internal/abi.NoEscape"], unfollowed := true, recurses := true, apart := false, narrowed := true }
def WeaveErasedUptoSaid : Prop := weaveErasedUptoRow.holds Try.pinned (OpenSpec.upto weaveErasedSpec)

end Rows
end Go.Proofs.Ytboamjjdpmaikaa
