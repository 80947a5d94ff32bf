/-
  No cell of these rows narrows 'for every input' (looked for: loops, veiled, ifaces, maps, wideKeys, modest, calm, conditions, laid).
  DERIVED. THE GIVEN ROWS OF THIS SEAT. 11 by the template 'for every input the law returns true; each argument reads behind the call as it read before'; 0 by the template 'total and deterministic' (their statements: YtnndecgjcgpmbaaTotals.lean).
  GIVEN WITH THE SEED: the statements are not yours to turn. If you find one false, say at which input.
  Laid BY PROGRAM, IN A SANDBOX (cutbox-rows.mjs): the forced cells as the released guide's own fill.sh prints them over the translation 74c816352161f7e0… (all of the seat's roots in one cut). By AI agents, Wed Nov 11 2026. No macro, syntax, notation, axiom, sorry.
-/
import Derived.Test.YtnndecgjcgpmbaaChecked
import GoSem.Claim
import GoSem.ClaimJoined
import GoSem.ClaimMapViews
import Derived.JoinedTies
import Derived.KernelRfl
namespace Go.Proofs.Ytnndecgjcgpmbaa
/- THE CELL 'sum', in the pinned program and in every row, IS THE sha256 OF THE DUMP (.gsa) THAT YtnndecgjcgpmbaaProg.lean LOADS. Nothing in Lean hashes anything: it is a label: what it is worth is what the hold of that sum in a sandbox is worth. -/
noncomputable def Try.pinned : Pinned := { name := "ytnndecgjcgpmbaa", sum := "74c816352161f7e02f40213339a65a14e960669c35d6c8e2ae93c4cf55089517", checked := Try.checked }
namespace Rows
def none {H : Type} : Left H := { results := [], args := [] }

/-- 'tinderboxlaw10.LifeRoom': WHATEVER THE INPUT: true; the input reads as it did. -/
def lifeRoomSpec : ChangeSpec := { name := "lifeRoom", fn := fun _ => fun
  | [d1, d2, d3] => { results := [.lit (.bool true)], args := [d1, d2, d3] }
  | _ => none }
def lifeRoomRow : OpenClaim := { program := "ytnndecgjcgpmbaa", sum := "74c816352161f7e02f40213339a65a14e960669c35d6c8e2ae93c4cf55089517", func := "tinderbox/tinderboxlaw10.LifeRoom", spec := "lifeRoom", apart := false }
def LifeRoomSaid : Prop := lifeRoomRow.holds Try.pinned (OpenSpec.ofChange lifeRoomSpec)

/-- ITS FALSE NEIGHBOUR: 'it returns false'. Refute it at one input. -/
def lifeRoomWrong : ChangeSpec := { name := "lifeRoom", fn := fun _ => fun
  | [d1, d2, d3] => { results := [.lit (.bool false)], args := [d1, d2, d3] }
  | _ => none }
def LifeRoomWrongFalsely : Prop := lifeRoomRow.holds Try.pinned (OpenSpec.ofChange lifeRoomWrong)

/-- 'tinderboxlaw10.LifePlays': WHATEVER THE INPUT: true; the input reads as it did. -/
def lifePlaysSpec : ChangeSpec := { name := "lifePlays", fn := fun _ => fun
  | [d1, d2, d3] => { results := [.lit (.bool true)], args := [d1, d2, d3] }
  | _ => none }
def lifePlaysRow : OpenClaim := { program := "ytnndecgjcgpmbaa", sum := "74c816352161f7e02f40213339a65a14e960669c35d6c8e2ae93c4cf55089517", func := "tinderbox/tinderboxlaw10.LifePlays", spec := "lifePlays", apart := false }
def LifePlaysSaid : Prop := lifePlaysRow.holds Try.pinned (OpenSpec.ofChange lifePlaysSpec)

/-- ITS FALSE NEIGHBOUR: 'it returns false'. Refute it at one input. -/
def lifePlaysWrong : ChangeSpec := { name := "lifePlays", fn := fun _ => fun
  | [d1, d2, d3] => { results := [.lit (.bool false)], args := [d1, d2, d3] }
  | _ => none }
def LifePlaysWrongFalsely : Prop := lifePlaysRow.holds Try.pinned (OpenSpec.ofChange lifePlaysWrong)

/-- 'tinderboxlaw10.LifeNone': WHATEVER THE INPUT: true; the input reads as it did. -/
def lifeNoneSpec : ChangeSpec := { name := "lifeNone", fn := fun _ => fun
  | [d1, d2, d3] => { results := [.lit (.bool true)], args := [d1, d2, d3] }
  | _ => none }
def lifeNoneRow : OpenClaim := { program := "ytnndecgjcgpmbaa", sum := "74c816352161f7e02f40213339a65a14e960669c35d6c8e2ae93c4cf55089517", func := "tinderbox/tinderboxlaw10.LifeNone", spec := "lifeNone", apart := false }
def LifeNoneSaid : Prop := lifeNoneRow.holds Try.pinned (OpenSpec.ofChange lifeNoneSpec)

/-- ITS FALSE NEIGHBOUR: 'it returns false'. Refute it at one input. -/
def lifeNoneWrong : ChangeSpec := { name := "lifeNone", fn := fun _ => fun
  | [d1, d2, d3] => { results := [.lit (.bool false)], args := [d1, d2, d3] }
  | _ => none }
def LifeNoneWrongFalsely : Prop := lifeNoneRow.holds Try.pinned (OpenSpec.ofChange lifeNoneWrong)

/-- 'tinderboxlaw06.PageFrames': WHATEVER THE INPUT: true; the input reads as it did. -/
def pageFramesSpec : ChangeSpec := { name := "pageFrames", fn := fun _ => fun
  | [d1, d2, d3] => { results := [.lit (.bool true)], args := [d1, d2, d3] }
  | _ => none }
def pageFramesRow : OpenClaim := { program := "ytnndecgjcgpmbaa", sum := "74c816352161f7e02f40213339a65a14e960669c35d6c8e2ae93c4cf55089517", func := "tinderbox/tinderboxlaw06.PageFrames", spec := "pageFrames", inPlace := ["internal/abi.NoEscape", "internal/bytealg.MakeNoZero"], apart := false }
def PageFramesSaid : Prop := pageFramesRow.holds Try.pinned (OpenSpec.ofChange pageFramesSpec)

/-- ITS FALSE NEIGHBOUR: 'it returns false'. Refute it at one input. -/
def pageFramesWrong : ChangeSpec := { name := "pageFrames", fn := fun _ => fun
  | [d1, d2, d3] => { results := [.lit (.bool false)], args := [d1, d2, d3] }
  | _ => none }
def PageFramesWrongFalsely : Prop := pageFramesRow.holds Try.pinned (OpenSpec.ofChange pageFramesWrong)

/-- 'tinderboxlaw06.PageLooks': WHATEVER THE INPUT: true; the input reads as it did. -/
def pageLooksSpec : ChangeSpec := { name := "pageLooks", fn := fun _ => fun
  | [d1, d2] => { results := [.lit (.bool true)], args := [d1, d2] }
  | _ => none }
def pageLooksRow : OpenClaim := { program := "ytnndecgjcgpmbaa", sum := "74c816352161f7e02f40213339a65a14e960669c35d6c8e2ae93c4cf55089517", func := "tinderbox/tinderboxlaw06.PageLooks", spec := "pageLooks", inPlace := ["internal/abi.NoEscape", "internal/bytealg.MakeNoZero"], apart := false }
def PageLooksSaid : Prop := pageLooksRow.holds Try.pinned (OpenSpec.ofChange pageLooksSpec)

/-- ITS FALSE NEIGHBOUR: 'it returns false'. Refute it at one input. -/
def pageLooksWrong : ChangeSpec := { name := "pageLooks", fn := fun _ => fun
  | [d1, d2] => { results := [.lit (.bool false)], args := [d1, d2] }
  | _ => none }
def PageLooksWrongFalsely : Prop := pageLooksRow.holds Try.pinned (OpenSpec.ofChange pageLooksWrong)

/-- 'tinderboxlaw06.PageTorn': WHATEVER THE INPUT: true; the input reads as it did. -/
def pageTornSpec : ChangeSpec := { name := "pageTorn", fn := fun _ => fun
  | [d1, d2, d3] => { results := [.lit (.bool true)], args := [d1, d2, d3] }
  | _ => none }
def pageTornRow : OpenClaim := { program := "ytnndecgjcgpmbaa", sum := "74c816352161f7e02f40213339a65a14e960669c35d6c8e2ae93c4cf55089517", func := "tinderbox/tinderboxlaw06.PageTorn", spec := "pageTorn", inPlace := ["internal/abi.NoEscape", "internal/bytealg.MakeNoZero"], apart := false }
def PageTornSaid : Prop := pageTornRow.holds Try.pinned (OpenSpec.ofChange pageTornSpec)

/-- ITS FALSE NEIGHBOUR: 'it returns false'. Refute it at one input. -/
def pageTornWrong : ChangeSpec := { name := "pageTorn", fn := fun _ => fun
  | [d1, d2, d3] => { results := [.lit (.bool false)], args := [d1, d2, d3] }
  | _ => none }
def PageTornWrongFalsely : Prop := pageTornRow.holds Try.pinned (OpenSpec.ofChange pageTornWrong)

/-- 'tinderboxlaw06.PageBeginning': WHATEVER THE INPUT: true; the input reads as it did. -/
def pageBeginningSpec : ChangeSpec := { name := "pageBeginning", fn := fun _ => fun
  | [d1, d2, d3] => { results := [.lit (.bool true)], args := [d1, d2, d3] }
  | _ => none }
def pageBeginningRow : OpenClaim := { program := "ytnndecgjcgpmbaa", sum := "74c816352161f7e02f40213339a65a14e960669c35d6c8e2ae93c4cf55089517", func := "tinderbox/tinderboxlaw06.PageBeginning", spec := "pageBeginning", inPlace := ["internal/abi.NoEscape", "internal/bytealg.MakeNoZero"], apart := false }
def PageBeginningSaid : Prop := pageBeginningRow.holds Try.pinned (OpenSpec.ofChange pageBeginningSpec)

/-- ITS FALSE NEIGHBOUR: 'it returns false'. Refute it at one input. -/
def pageBeginningWrong : ChangeSpec := { name := "pageBeginning", fn := fun _ => fun
  | [d1, d2, d3] => { results := [.lit (.bool false)], args := [d1, d2, d3] }
  | _ => none }
def PageBeginningWrongFalsely : Prop := pageBeginningRow.holds Try.pinned (OpenSpec.ofChange pageBeginningWrong)

/-- 'tinderboxlaw05.NandOrder': WHATEVER THE INPUT: true; the input reads as it did. -/
def nandOrderSpec : ChangeSpec := { name := "nandOrder", fn := fun _ => fun
  | [d1, d2] => { results := [.lit (.bool true)], args := [d1, d2] }
  | _ => none }
def nandOrderRow : OpenClaim := { program := "ytnndecgjcgpmbaa", sum := "74c816352161f7e02f40213339a65a14e960669c35d6c8e2ae93c4cf55089517", func := "tinderbox/tinderboxlaw05.NandOrder", spec := "nandOrder", inPlace := ["internal/abi.NoEscape", "internal/bytealg.MakeNoZero"], apart := false }
def NandOrderSaid : Prop := nandOrderRow.holds Try.pinned (OpenSpec.ofChange nandOrderSpec)

/-- ITS FALSE NEIGHBOUR: 'it returns false'. Refute it at one input. -/
def nandOrderWrong : ChangeSpec := { name := "nandOrder", fn := fun _ => fun
  | [d1, d2] => { results := [.lit (.bool false)], args := [d1, d2] }
  | _ => none }
def NandOrderWrongFalsely : Prop := nandOrderRow.holds Try.pinned (OpenSpec.ofChange nandOrderWrong)

/-- 'tinderboxlaw05.NandArm': WHATEVER THE INPUT: true; the input reads as it did. -/
def nandArmSpec : ChangeSpec := { name := "nandArm", fn := fun _ => fun
  | [d1, d2, d3] => { results := [.lit (.bool true)], args := [d1, d2, d3] }
  | _ => none }
def nandArmRow : OpenClaim := { program := "ytnndecgjcgpmbaa", sum := "74c816352161f7e02f40213339a65a14e960669c35d6c8e2ae93c4cf55089517", func := "tinderbox/tinderboxlaw05.NandArm", spec := "nandArm", inPlace := ["internal/abi.NoEscape", "internal/bytealg.MakeNoZero"], apart := false }
def NandArmSaid : Prop := nandArmRow.holds Try.pinned (OpenSpec.ofChange nandArmSpec)

/-- ITS FALSE NEIGHBOUR: 'it returns false'. Refute it at one input. -/
def nandArmWrong : ChangeSpec := { name := "nandArm", fn := fun _ => fun
  | [d1, d2, d3] => { results := [.lit (.bool false)], args := [d1, d2, d3] }
  | _ => none }
def NandArmWrongFalsely : Prop := nandArmRow.holds Try.pinned (OpenSpec.ofChange nandArmWrong)

/-- 'tinderboxlaw05.NandDead': WHATEVER THE INPUT: true; the input reads as it did. -/
def nandDeadSpec : ChangeSpec := { name := "nandDead", fn := fun _ => fun
  | [d1, d2, d3] => { results := [.lit (.bool true)], args := [d1, d2, d3] }
  | _ => none }
def nandDeadRow : OpenClaim := { program := "ytnndecgjcgpmbaa", sum := "74c816352161f7e02f40213339a65a14e960669c35d6c8e2ae93c4cf55089517", func := "tinderbox/tinderboxlaw05.NandDead", spec := "nandDead", inPlace := ["internal/abi.NoEscape", "internal/bytealg.MakeNoZero"], apart := false }
def NandDeadSaid : Prop := nandDeadRow.holds Try.pinned (OpenSpec.ofChange nandDeadSpec)

/-- ITS FALSE NEIGHBOUR: 'it returns false'. Refute it at one input. -/
def nandDeadWrong : ChangeSpec := { name := "nandDead", fn := fun _ => fun
  | [d1, d2, d3] => { results := [.lit (.bool false)], args := [d1, d2, d3] }
  | _ => none }
def NandDeadWrongFalsely : Prop := nandDeadRow.holds Try.pinned (OpenSpec.ofChange nandDeadWrong)

/-- 'tinderboxlaw05.NandNone': WHATEVER THE INPUT: true; the input reads as it did. -/
def nandNoneSpec : ChangeSpec := { name := "nandNone", fn := fun _ => fun
  | [d1, d2, d3] => { results := [.lit (.bool true)], args := [d1, d2, d3] }
  | _ => none }
def nandNoneRow : OpenClaim := { program := "ytnndecgjcgpmbaa", sum := "74c816352161f7e02f40213339a65a14e960669c35d6c8e2ae93c4cf55089517", func := "tinderbox/tinderboxlaw05.NandNone", spec := "nandNone", inPlace := ["internal/abi.NoEscape", "internal/bytealg.MakeNoZero"], apart := false }
def NandNoneSaid : Prop := nandNoneRow.holds Try.pinned (OpenSpec.ofChange nandNoneSpec)

/-- ITS FALSE NEIGHBOUR: 'it returns false'. Refute it at one input. -/
def nandNoneWrong : ChangeSpec := { name := "nandNone", fn := fun _ => fun
  | [d1, d2, d3] => { results := [.lit (.bool false)], args := [d1, d2, d3] }
  | _ => none }
def NandNoneWrongFalsely : Prop := nandNoneRow.holds Try.pinned (OpenSpec.ofChange nandNoneWrong)

/- THE SECOND FORM. 'bulk': how many values and letters a reading holds, each counted each time it is reached (what is shared counts as often as it is met; a slice's spare places count too). A statement '..UptoSaid' is the law's where the arguments, and the package variables that the reading takes, are together of bulk at most 1048576: NARROWER than '..Said'. Prove '..Said' where nothing that the law and all that it calls make is longer than what came in: it says more and counts as full. Else prove '..UptoSaid'. A law counts once. -/
mutual
def uptoBulk {H : Type} : DataW H → Nat
  | .lit (.string bytes) => bytes.length + 1
  | .lit _ => 1
  | .nil => 1
  | .ptr d => uptoBulk d + 1
  | .slice elems spare => uptoBulkAll elems + uptoBulkAll spare + 1
  | .agg parts => uptoBulkAll parts + 1
  | .iface _ d => uptoBulk d + 1
  | .map entries => uptoBulkEntries entries + 1
  | .held _ => 1
def uptoBulkAll {H : Type} : List (DataW H) → Nat
  | [] => 0
  | d :: r => uptoBulk d + uptoBulkAll r
def uptoBulkEntries {H : Type} : List (Lit × DataW H) → Nat
  | [] => 0
  | x :: r => uptoBulkEntry x + uptoBulkEntries r
def uptoBulkEntry {H : Type} : Lit × DataW H → Nat
  | (.string bytes, d) => bytes.length + uptoBulk d + 1
  | (_, d) => uptoBulk d + 1
 end
def uptoSmall : (H : Type) → List (DataW H) → Bool := fun _ ds => decide (uptoBulkAll ds ≤ 1048576)
def OpenSpec.upto (s : _root_.Go.ChangeSpec) : _root_.Go.OpenSpec := { _root_.Go.OpenSpec.ofChange s with cond := some uptoSmall }

/-- 'tinderboxlaw10.LifeRoom', WHERE WHAT IT READS IS OF BULK AT MOST 1048576: true; the input reads as it did. -/
def lifeRoomUptoRow : OpenClaim := { program := "ytnndecgjcgpmbaa", sum := "74c816352161f7e02f40213339a65a14e960669c35d6c8e2ae93c4cf55089517", func := "tinderbox/tinderboxlaw10.LifeRoom", spec := "lifeRoom", apart := false, narrowed := true }
def LifeRoomUptoSaid : Prop := lifeRoomUptoRow.holds Try.pinned (OpenSpec.upto lifeRoomSpec)

/-- 'tinderboxlaw10.LifePlays', WHERE WHAT IT READS IS OF BULK AT MOST 1048576: true; the input reads as it did. -/
def lifePlaysUptoRow : OpenClaim := { program := "ytnndecgjcgpmbaa", sum := "74c816352161f7e02f40213339a65a14e960669c35d6c8e2ae93c4cf55089517", func := "tinderbox/tinderboxlaw10.LifePlays", spec := "lifePlays", apart := false, narrowed := true }
def LifePlaysUptoSaid : Prop := lifePlaysUptoRow.holds Try.pinned (OpenSpec.upto lifePlaysSpec)

/-- 'tinderboxlaw10.LifeNone', WHERE WHAT IT READS IS OF BULK AT MOST 1048576: true; the input reads as it did. -/
def lifeNoneUptoRow : OpenClaim := { program := "ytnndecgjcgpmbaa", sum := "74c816352161f7e02f40213339a65a14e960669c35d6c8e2ae93c4cf55089517", func := "tinderbox/tinderboxlaw10.LifeNone", spec := "lifeNone", apart := false, narrowed := true }
def LifeNoneUptoSaid : Prop := lifeNoneUptoRow.holds Try.pinned (OpenSpec.upto lifeNoneSpec)

/-- 'tinderboxlaw06.PageFrames', WHERE WHAT IT READS IS OF BULK AT MOST 1048576: true; the input reads as it did. -/
def pageFramesUptoRow : OpenClaim := { program := "ytnndecgjcgpmbaa", sum := "74c816352161f7e02f40213339a65a14e960669c35d6c8e2ae93c4cf55089517", func := "tinderbox/tinderboxlaw06.PageFrames", spec := "pageFrames", inPlace := ["internal/abi.NoEscape", "internal/bytealg.MakeNoZero"], apart := false, narrowed := true }
def PageFramesUptoSaid : Prop := pageFramesUptoRow.holds Try.pinned (OpenSpec.upto pageFramesSpec)

/-- 'tinderboxlaw06.PageLooks', WHERE WHAT IT READS IS OF BULK AT MOST 1048576: true; the input reads as it did. -/
def pageLooksUptoRow : OpenClaim := { program := "ytnndecgjcgpmbaa", sum := "74c816352161f7e02f40213339a65a14e960669c35d6c8e2ae93c4cf55089517", func := "tinderbox/tinderboxlaw06.PageLooks", spec := "pageLooks", inPlace := ["internal/abi.NoEscape", "internal/bytealg.MakeNoZero"], apart := false, narrowed := true }
def PageLooksUptoSaid : Prop := pageLooksUptoRow.holds Try.pinned (OpenSpec.upto pageLooksSpec)

/-- 'tinderboxlaw06.PageTorn', WHERE WHAT IT READS IS OF BULK AT MOST 1048576: true; the input reads as it did. -/
def pageTornUptoRow : OpenClaim := { program := "ytnndecgjcgpmbaa", sum := "74c816352161f7e02f40213339a65a14e960669c35d6c8e2ae93c4cf55089517", func := "tinderbox/tinderboxlaw06.PageTorn", spec := "pageTorn", inPlace := ["internal/abi.NoEscape", "internal/bytealg.MakeNoZero"], apart := false, narrowed := true }
def PageTornUptoSaid : Prop := pageTornUptoRow.holds Try.pinned (OpenSpec.upto pageTornSpec)

/-- 'tinderboxlaw06.PageBeginning', WHERE WHAT IT READS IS OF BULK AT MOST 1048576: true; the input reads as it did. -/
def pageBeginningUptoRow : OpenClaim := { program := "ytnndecgjcgpmbaa", sum := "74c816352161f7e02f40213339a65a14e960669c35d6c8e2ae93c4cf55089517", func := "tinderbox/tinderboxlaw06.PageBeginning", spec := "pageBeginning", inPlace := ["internal/abi.NoEscape", "internal/bytealg.MakeNoZero"], apart := false, narrowed := true }
def PageBeginningUptoSaid : Prop := pageBeginningUptoRow.holds Try.pinned (OpenSpec.upto pageBeginningSpec)

/-- 'tinderboxlaw05.NandOrder', WHERE WHAT IT READS IS OF BULK AT MOST 1048576: true; the input reads as it did. -/
def nandOrderUptoRow : OpenClaim := { program := "ytnndecgjcgpmbaa", sum := "74c816352161f7e02f40213339a65a14e960669c35d6c8e2ae93c4cf55089517", func := "tinderbox/tinderboxlaw05.NandOrder", spec := "nandOrder", inPlace := ["internal/abi.NoEscape", "internal/bytealg.MakeNoZero"], apart := false, narrowed := true }
def NandOrderUptoSaid : Prop := nandOrderUptoRow.holds Try.pinned (OpenSpec.upto nandOrderSpec)

/-- 'tinderboxlaw05.NandArm', WHERE WHAT IT READS IS OF BULK AT MOST 1048576: true; the input reads as it did. -/
def nandArmUptoRow : OpenClaim := { program := "ytnndecgjcgpmbaa", sum := "74c816352161f7e02f40213339a65a14e960669c35d6c8e2ae93c4cf55089517", func := "tinderbox/tinderboxlaw05.NandArm", spec := "nandArm", inPlace := ["internal/abi.NoEscape", "internal/bytealg.MakeNoZero"], apart := false, narrowed := true }
def NandArmUptoSaid : Prop := nandArmUptoRow.holds Try.pinned (OpenSpec.upto nandArmSpec)

/-- 'tinderboxlaw05.NandDead', WHERE WHAT IT READS IS OF BULK AT MOST 1048576: true; the input reads as it did. -/
def nandDeadUptoRow : OpenClaim := { program := "ytnndecgjcgpmbaa", sum := "74c816352161f7e02f40213339a65a14e960669c35d6c8e2ae93c4cf55089517", func := "tinderbox/tinderboxlaw05.NandDead", spec := "nandDead", inPlace := ["internal/abi.NoEscape", "internal/bytealg.MakeNoZero"], apart := false, narrowed := true }
def NandDeadUptoSaid : Prop := nandDeadUptoRow.holds Try.pinned (OpenSpec.upto nandDeadSpec)

/-- 'tinderboxlaw05.NandNone', WHERE WHAT IT READS IS OF BULK AT MOST 1048576: true; the input reads as it did. -/
def nandNoneUptoRow : OpenClaim := { program := "ytnndecgjcgpmbaa", sum := "74c816352161f7e02f40213339a65a14e960669c35d6c8e2ae93c4cf55089517", func := "tinderbox/tinderboxlaw05.NandNone", spec := "nandNone", inPlace := ["internal/abi.NoEscape", "internal/bytealg.MakeNoZero"], apart := false, narrowed := true }
def NandNoneUptoSaid : Prop := nandNoneUptoRow.holds Try.pinned (OpenSpec.upto nandNoneSpec)

end Rows
end Go.Proofs.Ytnndecgjcgpmbaa
