/-
  No cell of these rows narrows 'for every input' (looked for: loops, veiled, ifaces, maps, wideKeys, modest, calm, conditions, laid).
  DERIVED. THE GIVEN ROWS OF THIS SEAT. 9 by the template 'for every input the law returns true; each argument reads behind the call as it read before'; 0 by the template 'total and deterministic' (their statements: YtfmefnejaocopaaTotals.lean).
  GIVEN WITH THE SEED: the statements are not yours to turn. If you find one false, say at which input.
  Laid BY PROGRAM, IN A SANDBOX (cutbox-rows.mjs): the forced cells as the released guide's own fill.sh prints them over the translation 4cb5cc7b0439d7e6… (all of the seat's roots in one cut). By AI agents, Wed Nov 11 2026. No macro, syntax, notation, axiom, sorry.
-/
import Derived.Test.YtfmefnejaocopaaChecked
import GoSem.Claim
import GoSem.ClaimJoined
import GoSem.ClaimMapViews
import Derived.JoinedTies
import Derived.KernelRfl
namespace Go.Proofs.Ytfmefnejaocopaa
/- THE CELL 'sum', in the pinned program and in every row, IS THE sha256 OF THE DUMP (.gsa) THAT YtfmefnejaocopaaProg.lean LOADS. Nothing in Lean hashes anything: it is a label: what it is worth is what the hold of that sum in a sandbox is worth. -/
noncomputable def Try.pinned : Pinned := { name := "ytfmefnejaocopaa", sum := "4cb5cc7b0439d7e6587266008a01ed416f10e5e96c7288e440b21cba1458d7a9", checked := Try.checked }
namespace Rows
def none {H : Type} : Left H := { results := [], args := [] }

/-- 'tinderboxlaw08.StateBlocks': WHATEVER THE INPUT: true; the input reads as it did. -/
def stateBlocksSpec : ChangeSpec := { name := "stateBlocks", fn := fun _ => fun
  | [d] => { results := [.lit (.bool true)], args := [d] }
  | _ => none }
def stateBlocksRow : OpenClaim := { program := "ytfmefnejaocopaa", sum := "4cb5cc7b0439d7e6587266008a01ed416f10e5e96c7288e440b21cba1458d7a9", func := "tinderbox/tinderboxlaw08.StateBlocks", spec := "stateBlocks", inPlace := ["maps.clone"], unfollowed := true, recurses := true, apart := false }
def StateBlocksSaid : Prop := stateBlocksRow.holds Try.pinned (OpenSpec.ofChange stateBlocksSpec)

/-- ITS FALSE NEIGHBOUR: 'it returns false'. Refute it at one input. -/
def stateBlocksWrong : ChangeSpec := { name := "stateBlocks", fn := fun _ => fun
  | [d] => { results := [.lit (.bool false)], args := [d] }
  | _ => none }
def StateBlocksWrongFalsely : Prop := stateBlocksRow.holds Try.pinned (OpenSpec.ofChange stateBlocksWrong)

/-- 'tinderboxlaw08.StatePlays': WHATEVER THE INPUT: true; the input reads as it did. -/
def statePlaysSpec : ChangeSpec := { name := "statePlays", fn := fun _ => fun
  | [d] => { results := [.lit (.bool true)], args := [d] }
  | _ => none }
def statePlaysRow : OpenClaim := { program := "ytfmefnejaocopaa", sum := "4cb5cc7b0439d7e6587266008a01ed416f10e5e96c7288e440b21cba1458d7a9", func := "tinderbox/tinderboxlaw08.StatePlays", spec := "statePlays", inPlace := ["maps.clone"], unfollowed := true, recurses := true, apart := false }
def StatePlaysSaid : Prop := statePlaysRow.holds Try.pinned (OpenSpec.ofChange statePlaysSpec)

/-- ITS FALSE NEIGHBOUR: 'it returns false'. Refute it at one input. -/
def statePlaysWrong : ChangeSpec := { name := "statePlays", fn := fun _ => fun
  | [d] => { results := [.lit (.bool false)], args := [d] }
  | _ => none }
def StatePlaysWrongFalsely : Prop := statePlaysRow.holds Try.pinned (OpenSpec.ofChange statePlaysWrong)

/-- 'tinderboxlaw08.StateDumps': WHATEVER THE INPUT: true; the input reads as it did. -/
def stateDumpsSpec : ChangeSpec := { name := "stateDumps", fn := fun _ => fun
  | [d] => { results := [.lit (.bool true)], args := [d] }
  | _ => none }
def stateDumpsRow : OpenClaim := { program := "ytfmefnejaocopaa", sum := "4cb5cc7b0439d7e6587266008a01ed416f10e5e96c7288e440b21cba1458d7a9", func := "tinderbox/tinderboxlaw08.StateDumps", spec := "stateDumps", inPlace := ["maps.clone"], unfollowed := true, recurses := true, apart := false }
def StateDumpsSaid : Prop := stateDumpsRow.holds Try.pinned (OpenSpec.ofChange stateDumpsSpec)

/-- ITS FALSE NEIGHBOUR: 'it returns false'. Refute it at one input. -/
def stateDumpsWrong : ChangeSpec := { name := "stateDumps", fn := fun _ => fun
  | [d] => { results := [.lit (.bool false)], args := [d] }
  | _ => none }
def StateDumpsWrongFalsely : Prop := stateDumpsRow.holds Try.pinned (OpenSpec.ofChange stateDumpsWrong)

/-- 'tinderboxlaw08.StateLays': WHATEVER THE INPUT: true; the input reads as it did. -/
def stateLaysSpec : ChangeSpec := { name := "stateLays", fn := fun _ => fun
  | [d1, d2] => { results := [.lit (.bool true)], args := [d1, d2] }
  | _ => none }
def stateLaysRow : OpenClaim := { program := "ytfmefnejaocopaa", sum := "4cb5cc7b0439d7e6587266008a01ed416f10e5e96c7288e440b21cba1458d7a9", func := "tinderbox/tinderboxlaw08.StateLays", spec := "stateLays", inPlace := ["maps.clone"], unfollowed := true, recurses := true, apart := false }
def StateLaysSaid : Prop := stateLaysRow.holds Try.pinned (OpenSpec.ofChange stateLaysSpec)

/-- ITS FALSE NEIGHBOUR: 'it returns false'. Refute it at one input. -/
def stateLaysWrong : ChangeSpec := { name := "stateLays", fn := fun _ => fun
  | [d1, d2] => { results := [.lit (.bool false)], args := [d1, d2] }
  | _ => none }
def StateLaysWrongFalsely : Prop := stateLaysRow.holds Try.pinned (OpenSpec.ofChange stateLaysWrong)

/-- 'tinderboxlaw19.ModelPlays': WHATEVER THE INPUT: true; the input reads as it did. -/
def modelPlaysSpec : ChangeSpec := { name := "modelPlays", fn := fun _ => fun
  | [d1, d2] => { results := [.lit (.bool true)], args := [d1, d2] }
  | _ => none }
def modelPlaysRow : OpenClaim := { program := "ytfmefnejaocopaa", sum := "4cb5cc7b0439d7e6587266008a01ed416f10e5e96c7288e440b21cba1458d7a9", func := "tinderbox/tinderboxlaw19.ModelPlays", spec := "modelPlays", inPlace := ["maps.clone"], unfollowed := true, recurses := true, apart := false }
def ModelPlaysSaid : Prop := modelPlaysRow.holds Try.pinned (OpenSpec.ofChange modelPlaysSpec)

/-- ITS FALSE NEIGHBOUR: 'it returns false'. Refute it at one input. -/
def modelPlaysWrong : ChangeSpec := { name := "modelPlays", fn := fun _ => fun
  | [d1, d2] => { results := [.lit (.bool false)], args := [d1, d2] }
  | _ => none }
def ModelPlaysWrongFalsely : Prop := modelPlaysRow.holds Try.pinned (OpenSpec.ofChange modelPlaysWrong)

/-- 'tinderboxlaw08.StateCopies': WHATEVER THE INPUT: true; the input reads as it did. -/
def stateCopiesSpec : ChangeSpec := { name := "stateCopies", fn := fun _ => fun
  | [d1, d2] => { results := [.lit (.bool true)], args := [d1, d2] }
  | _ => none }
def stateCopiesRow : OpenClaim := { program := "ytfmefnejaocopaa", sum := "4cb5cc7b0439d7e6587266008a01ed416f10e5e96c7288e440b21cba1458d7a9", func := "tinderbox/tinderboxlaw08.StateCopies", spec := "stateCopies", inPlace := ["maps.clone"], unfollowed := true, recurses := true, apart := false }
def StateCopiesSaid : Prop := stateCopiesRow.holds Try.pinned (OpenSpec.ofChange stateCopiesSpec)

/-- ITS FALSE NEIGHBOUR: 'it returns false'. Refute it at one input. -/
def stateCopiesWrong : ChangeSpec := { name := "stateCopies", fn := fun _ => fun
  | [d1, d2] => { results := [.lit (.bool false)], args := [d1, d2] }
  | _ => none }
def StateCopiesWrongFalsely : Prop := stateCopiesRow.holds Try.pinned (OpenSpec.ofChange stateCopiesWrong)

/-- 'tinderboxlaw19.ModelCopies': WHATEVER THE INPUT: true; the input reads as it did. -/
def modelCopiesSpec : ChangeSpec := { name := "modelCopies", fn := fun _ => fun
  | [d1, d2] => { results := [.lit (.bool true)], args := [d1, d2] }
  | _ => none }
def modelCopiesRow : OpenClaim := { program := "ytfmefnejaocopaa", sum := "4cb5cc7b0439d7e6587266008a01ed416f10e5e96c7288e440b21cba1458d7a9", func := "tinderbox/tinderboxlaw19.ModelCopies", spec := "modelCopies", inPlace := ["maps.clone"], unfollowed := true, recurses := true, apart := false }
def ModelCopiesSaid : Prop := modelCopiesRow.holds Try.pinned (OpenSpec.ofChange modelCopiesSpec)

/-- ITS FALSE NEIGHBOUR: 'it returns false'. Refute it at one input. -/
def modelCopiesWrong : ChangeSpec := { name := "modelCopies", fn := fun _ => fun
  | [d1, d2] => { results := [.lit (.bool false)], args := [d1, d2] }
  | _ => none }
def ModelCopiesWrongFalsely : Prop := modelCopiesRow.holds Try.pinned (OpenSpec.ofChange modelCopiesWrong)

/-- 'tinderboxlaw19.ModelNone': WHATEVER THE INPUT: true; the input reads as it did. -/
def modelNoneSpec : ChangeSpec := { name := "modelNone", fn := fun _ => fun
  | [d1, d2] => { results := [.lit (.bool true)], args := [d1, d2] }
  | _ => none }
def modelNoneRow : OpenClaim := { program := "ytfmefnejaocopaa", sum := "4cb5cc7b0439d7e6587266008a01ed416f10e5e96c7288e440b21cba1458d7a9", func := "tinderbox/tinderboxlaw19.ModelNone", spec := "modelNone", inPlace := ["maps.clone"], unfollowed := true, recurses := true, apart := false }
def ModelNoneSaid : Prop := modelNoneRow.holds Try.pinned (OpenSpec.ofChange modelNoneSpec)

/-- ITS FALSE NEIGHBOUR: 'it returns false'. Refute it at one input. -/
def modelNoneWrong : ChangeSpec := { name := "modelNone", fn := fun _ => fun
  | [d1, d2] => { results := [.lit (.bool false)], args := [d1, d2] }
  | _ => none }
def ModelNoneWrongFalsely : Prop := modelNoneRow.holds Try.pinned (OpenSpec.ofChange modelNoneWrong)

/-- 'tinderboxlaw08.StateNone': WHATEVER THE INPUT: true; the input reads as it did. -/
def stateNoneSpec : ChangeSpec := { name := "stateNone", fn := fun _ => fun
  | [d] => { results := [.lit (.bool true)], args := [d] }
  | _ => none }
def stateNoneRow : OpenClaim := { program := "ytfmefnejaocopaa", sum := "4cb5cc7b0439d7e6587266008a01ed416f10e5e96c7288e440b21cba1458d7a9", func := "tinderbox/tinderboxlaw08.StateNone", spec := "stateNone", inPlace := ["maps.clone"], unfollowed := true, recurses := true, apart := false }
def StateNoneSaid : Prop := stateNoneRow.holds Try.pinned (OpenSpec.ofChange stateNoneSpec)

/-- ITS FALSE NEIGHBOUR: 'it returns false'. Refute it at one input. -/
def stateNoneWrong : ChangeSpec := { name := "stateNone", fn := fun _ => fun
  | [d] => { results := [.lit (.bool false)], args := [d] }
  | _ => none }
def StateNoneWrongFalsely : Prop := stateNoneRow.holds Try.pinned (OpenSpec.ofChange stateNoneWrong)

/- THE SECOND FORM. 'bulk': how many values and letters a reading holds, each counted each time it is reached (what is shared counts as often as it is met; a slice's spare places count too). A statement '..UptoSaid' is the law's where the arguments, and the package variables that the reading takes, are together of bulk at most 1048576: NARROWER than '..Said'. Prove '..Said' where nothing that the law and all that it calls make is longer than what came in: it says more and counts as full. Else prove '..UptoSaid'. A law counts once. -/
mutual
def uptoBulk {H : Type} : DataW H → Nat
  | .lit (.string bytes) => bytes.length + 1
  | .lit _ => 1
  | .nil => 1
  | .ptr d => uptoBulk d + 1
  | .slice elems spare => uptoBulkAll elems + uptoBulkAll spare + 1
  | .agg parts => uptoBulkAll parts + 1
  | .iface _ d => uptoBulk d + 1
  | .map entries => uptoBulkEntries entries + 1
  | .held _ => 1
def uptoBulkAll {H : Type} : List (DataW H) → Nat
  | [] => 0
  | d :: r => uptoBulk d + uptoBulkAll r
def uptoBulkEntries {H : Type} : List (Lit × DataW H) → Nat
  | [] => 0
  | x :: r => uptoBulkEntry x + uptoBulkEntries r
def uptoBulkEntry {H : Type} : Lit × DataW H → Nat
  | (.string bytes, d) => bytes.length + uptoBulk d + 1
  | (_, d) => uptoBulk d + 1
 end
def uptoSmall : (H : Type) → List (DataW H) → Bool := fun _ ds => decide (uptoBulkAll ds ≤ 1048576)
def OpenSpec.upto (s : _root_.Go.ChangeSpec) : _root_.Go.OpenSpec := { _root_.Go.OpenSpec.ofChange s with cond := some uptoSmall }

/-- 'tinderboxlaw08.StateBlocks', WHERE WHAT IT READS IS OF BULK AT MOST 1048576: true; the input reads as it did. -/
def stateBlocksUptoRow : OpenClaim := { program := "ytfmefnejaocopaa", sum := "4cb5cc7b0439d7e6587266008a01ed416f10e5e96c7288e440b21cba1458d7a9", func := "tinderbox/tinderboxlaw08.StateBlocks", spec := "stateBlocks", inPlace := ["maps.clone"], unfollowed := true, recurses := true, apart := false, narrowed := true }
def StateBlocksUptoSaid : Prop := stateBlocksUptoRow.holds Try.pinned (OpenSpec.upto stateBlocksSpec)

/-- 'tinderboxlaw08.StatePlays', WHERE WHAT IT READS IS OF BULK AT MOST 1048576: true; the input reads as it did. -/
def statePlaysUptoRow : OpenClaim := { program := "ytfmefnejaocopaa", sum := "4cb5cc7b0439d7e6587266008a01ed416f10e5e96c7288e440b21cba1458d7a9", func := "tinderbox/tinderboxlaw08.StatePlays", spec := "statePlays", inPlace := ["maps.clone"], unfollowed := true, recurses := true, apart := false, narrowed := true }
def StatePlaysUptoSaid : Prop := statePlaysUptoRow.holds Try.pinned (OpenSpec.upto statePlaysSpec)

/-- 'tinderboxlaw08.StateDumps', WHERE WHAT IT READS IS OF BULK AT MOST 1048576: true; the input reads as it did. -/
def stateDumpsUptoRow : OpenClaim := { program := "ytfmefnejaocopaa", sum := "4cb5cc7b0439d7e6587266008a01ed416f10e5e96c7288e440b21cba1458d7a9", func := "tinderbox/tinderboxlaw08.StateDumps", spec := "stateDumps", inPlace := ["maps.clone"], unfollowed := true, recurses := true, apart := false, narrowed := true }
def StateDumpsUptoSaid : Prop := stateDumpsUptoRow.holds Try.pinned (OpenSpec.upto stateDumpsSpec)

/-- 'tinderboxlaw08.StateLays', WHERE WHAT IT READS IS OF BULK AT MOST 1048576: true; the input reads as it did. -/
def stateLaysUptoRow : OpenClaim := { program := "ytfmefnejaocopaa", sum := "4cb5cc7b0439d7e6587266008a01ed416f10e5e96c7288e440b21cba1458d7a9", func := "tinderbox/tinderboxlaw08.StateLays", spec := "stateLays", inPlace := ["maps.clone"], unfollowed := true, recurses := true, apart := false, narrowed := true }
def StateLaysUptoSaid : Prop := stateLaysUptoRow.holds Try.pinned (OpenSpec.upto stateLaysSpec)

/-- 'tinderboxlaw19.ModelPlays', WHERE WHAT IT READS IS OF BULK AT MOST 1048576: true; the input reads as it did. -/
def modelPlaysUptoRow : OpenClaim := { program := "ytfmefnejaocopaa", sum := "4cb5cc7b0439d7e6587266008a01ed416f10e5e96c7288e440b21cba1458d7a9", func := "tinderbox/tinderboxlaw19.ModelPlays", spec := "modelPlays", inPlace := ["maps.clone"], unfollowed := true, recurses := true, apart := false, narrowed := true }
def ModelPlaysUptoSaid : Prop := modelPlaysUptoRow.holds Try.pinned (OpenSpec.upto modelPlaysSpec)

/-- 'tinderboxlaw08.StateCopies', WHERE WHAT IT READS IS OF BULK AT MOST 1048576: true; the input reads as it did. -/
def stateCopiesUptoRow : OpenClaim := { program := "ytfmefnejaocopaa", sum := "4cb5cc7b0439d7e6587266008a01ed416f10e5e96c7288e440b21cba1458d7a9", func := "tinderbox/tinderboxlaw08.StateCopies", spec := "stateCopies", inPlace := ["maps.clone"], unfollowed := true, recurses := true, apart := false, narrowed := true }
def StateCopiesUptoSaid : Prop := stateCopiesUptoRow.holds Try.pinned (OpenSpec.upto stateCopiesSpec)

/-- 'tinderboxlaw19.ModelCopies', WHERE WHAT IT READS IS OF BULK AT MOST 1048576: true; the input reads as it did. -/
def modelCopiesUptoRow : OpenClaim := { program := "ytfmefnejaocopaa", sum := "4cb5cc7b0439d7e6587266008a01ed416f10e5e96c7288e440b21cba1458d7a9", func := "tinderbox/tinderboxlaw19.ModelCopies", spec := "modelCopies", inPlace := ["maps.clone"], unfollowed := true, recurses := true, apart := false, narrowed := true }
def ModelCopiesUptoSaid : Prop := modelCopiesUptoRow.holds Try.pinned (OpenSpec.upto modelCopiesSpec)

/-- 'tinderboxlaw19.ModelNone', WHERE WHAT IT READS IS OF BULK AT MOST 1048576: true; the input reads as it did. -/
def modelNoneUptoRow : OpenClaim := { program := "ytfmefnejaocopaa", sum := "4cb5cc7b0439d7e6587266008a01ed416f10e5e96c7288e440b21cba1458d7a9", func := "tinderbox/tinderboxlaw19.ModelNone", spec := "modelNone", inPlace := ["maps.clone"], unfollowed := true, recurses := true, apart := false, narrowed := true }
def ModelNoneUptoSaid : Prop := modelNoneUptoRow.holds Try.pinned (OpenSpec.upto modelNoneSpec)

/-- 'tinderboxlaw08.StateNone', WHERE WHAT IT READS IS OF BULK AT MOST 1048576: true; the input reads as it did. -/
def stateNoneUptoRow : OpenClaim := { program := "ytfmefnejaocopaa", sum := "4cb5cc7b0439d7e6587266008a01ed416f10e5e96c7288e440b21cba1458d7a9", func := "tinderbox/tinderboxlaw08.StateNone", spec := "stateNone", inPlace := ["maps.clone"], unfollowed := true, recurses := true, apart := false, narrowed := true }
def StateNoneUptoSaid : Prop := stateNoneUptoRow.holds Try.pinned (OpenSpec.upto stateNoneSpec)

end Rows
end Go.Proofs.Ytfmefnejaocopaa
