/-
  No cell of these rows narrows 'for every input' (looked for: loops, veiled, ifaces, maps, wideKeys, modest, calm, conditions, laid).
  DERIVED. THE GIVEN ROWS OF THIS SEAT. 10 by the template 'for every input the law returns true; each argument reads behind the call as it read before'; 0 by the template 'total and deterministic' (their statements: YtdjmipkijimajaaTotals.lean).
  GIVEN WITH THE SEED: the statements are not yours to turn. If you find one false, say at which input.
  Laid BY PROGRAM, IN A SANDBOX (cutbox-rows.mjs): the forced cells as the released guide's own fill.sh prints them over the translation 946f1b7ffdc96b87… (all of the seat's roots in one cut). By AI agents, Wed Nov 11 2026. No macro, syntax, notation, axiom, sorry.
-/
import Derived.Test.YtdjmipkijimajaaChecked
import GoSem.Claim
import GoSem.ClaimJoined
import GoSem.ClaimMapViews
import Derived.JoinedTies
import Derived.KernelRfl
namespace Go.Proofs.Ytdjmipkijimajaa
/- THE CELL 'sum', in the pinned program and in every row, IS THE sha256 OF THE DUMP (.gsa) THAT YtdjmipkijimajaaProg.lean LOADS. Nothing in Lean hashes anything: it is a label: what it is worth is what the hold of that sum in a sandbox is worth. -/
noncomputable def Try.pinned : Pinned := { name := "ytdjmipkijimajaa", sum := "946f1b7ffdc96b876027d7767b6d8c7aaba800841e5050f21c28917948c0c779", checked := Try.checked }
namespace Rows
def none {H : Type} : Left H := { results := [], args := [] }

/-- 'tinderboxlaw39.CounterRises': WHATEVER THE INPUT: true; the input reads as it did. -/
def counterRisesSpec : ChangeSpec := { name := "counterRises", fn := fun _ => fun
  | [d1, d2, d3] => { results := [.lit (.bool true)], args := [d1, d2, d3] }
  | _ => none }
def counterRisesRow : OpenClaim := { program := "ytdjmipkijimajaa", sum := "946f1b7ffdc96b876027d7767b6d8c7aaba800841e5050f21c28917948c0c779", func := "tinderbox/tinderboxlaw39.CounterRises", spec := "counterRises", inPlace := ["internal/abi.NoEscape", "internal/bytealg.MakeNoZero"], apart := false }
def CounterRisesSaid : Prop := counterRisesRow.holds Try.pinned (OpenSpec.ofChange counterRisesSpec)

/-- ITS FALSE NEIGHBOUR: 'it returns false'. Refute it at one input. -/
def counterRisesWrong : ChangeSpec := { name := "counterRises", fn := fun _ => fun
  | [d1, d2, d3] => { results := [.lit (.bool false)], args := [d1, d2, d3] }
  | _ => none }
def CounterRisesWrongFalsely : Prop := counterRisesRow.holds Try.pinned (OpenSpec.ofChange counterRisesWrong)

/-- 'tinderboxlaw39.CounterNone': WHATEVER THE INPUT: true; the input reads as it did. -/
def counterNoneSpec : ChangeSpec := { name := "counterNone", fn := fun _ => fun
  | [d1, d2, d3] => { results := [.lit (.bool true)], args := [d1, d2, d3] }
  | _ => none }
def counterNoneRow : OpenClaim := { program := "ytdjmipkijimajaa", sum := "946f1b7ffdc96b876027d7767b6d8c7aaba800841e5050f21c28917948c0c779", func := "tinderbox/tinderboxlaw39.CounterNone", spec := "counterNone", inPlace := ["internal/abi.NoEscape", "internal/bytealg.MakeNoZero"], apart := false }
def CounterNoneSaid : Prop := counterNoneRow.holds Try.pinned (OpenSpec.ofChange counterNoneSpec)

/-- ITS FALSE NEIGHBOUR: 'it returns false'. Refute it at one input. -/
def counterNoneWrong : ChangeSpec := { name := "counterNone", fn := fun _ => fun
  | [d1, d2, d3] => { results := [.lit (.bool false)], args := [d1, d2, d3] }
  | _ => none }
def CounterNoneWrongFalsely : Prop := counterNoneRow.holds Try.pinned (OpenSpec.ofChange counterNoneWrong)

/-- 'tinderboxlaw39.CounterCuts': WHATEVER THE INPUT: true; the input reads as it did. -/
def counterCutsSpec : ChangeSpec := { name := "counterCuts", fn := fun _ => fun
  | [d1, d2, d3] => { results := [.lit (.bool true)], args := [d1, d2, d3] }
  | _ => none }
def counterCutsRow : OpenClaim := { program := "ytdjmipkijimajaa", sum := "946f1b7ffdc96b876027d7767b6d8c7aaba800841e5050f21c28917948c0c779", func := "tinderbox/tinderboxlaw39.CounterCuts", spec := "counterCuts", inPlace := ["internal/abi.NoEscape", "internal/bytealg.MakeNoZero"], apart := false }
def CounterCutsSaid : Prop := counterCutsRow.holds Try.pinned (OpenSpec.ofChange counterCutsSpec)

/-- ITS FALSE NEIGHBOUR: 'it returns false'. Refute it at one input. -/
def counterCutsWrong : ChangeSpec := { name := "counterCuts", fn := fun _ => fun
  | [d1, d2, d3] => { results := [.lit (.bool false)], args := [d1, d2, d3] }
  | _ => none }
def CounterCutsWrongFalsely : Prop := counterCutsRow.holds Try.pinned (OpenSpec.ofChange counterCutsWrong)

/-- 'tinderboxlaw39.CounterTurns': WHATEVER THE INPUT: true; the input reads as it did. -/
def counterTurnsSpec : ChangeSpec := { name := "counterTurns", fn := fun _ => fun
  | [d1, d2] => { results := [.lit (.bool true)], args := [d1, d2] }
  | _ => none }
def counterTurnsRow : OpenClaim := { program := "ytdjmipkijimajaa", sum := "946f1b7ffdc96b876027d7767b6d8c7aaba800841e5050f21c28917948c0c779", func := "tinderbox/tinderboxlaw39.CounterTurns", spec := "counterTurns", inPlace := ["internal/abi.NoEscape", "internal/bytealg.MakeNoZero"], apart := false }
def CounterTurnsSaid : Prop := counterTurnsRow.holds Try.pinned (OpenSpec.ofChange counterTurnsSpec)

/-- ITS FALSE NEIGHBOUR: 'it returns false'. Refute it at one input. -/
def counterTurnsWrong : ChangeSpec := { name := "counterTurns", fn := fun _ => fun
  | [d1, d2] => { results := [.lit (.bool false)], args := [d1, d2] }
  | _ => none }
def CounterTurnsWrongFalsely : Prop := counterTurnsRow.holds Try.pinned (OpenSpec.ofChange counterTurnsWrong)

/-- 'tinderboxlaw31.BusParams': WHATEVER THE INPUT: true; the input reads as it did. -/
def busParamsSpec : ChangeSpec := { name := "busParams", fn := fun _ => fun
  | [d] => { results := [.lit (.bool true)], args := [d] }
  | _ => none }
def busParamsRow : OpenClaim := { program := "ytdjmipkijimajaa", sum := "946f1b7ffdc96b876027d7767b6d8c7aaba800841e5050f21c28917948c0c779", func := "tinderbox/tinderboxlaw31.BusParams", spec := "busParams", inPlace := ["internal/abi.NoEscape", "internal/bytealg.MakeNoZero"], apart := false }
def BusParamsSaid : Prop := busParamsRow.holds Try.pinned (OpenSpec.ofChange busParamsSpec)

/-- ITS FALSE NEIGHBOUR: 'it returns false'. Refute it at one input. -/
def busParamsWrong : ChangeSpec := { name := "busParams", fn := fun _ => fun
  | [d] => { results := [.lit (.bool false)], args := [d] }
  | _ => none }
def BusParamsWrongFalsely : Prop := busParamsRow.holds Try.pinned (OpenSpec.ofChange busParamsWrong)

/-- 'tinderboxlaw31.BusFails': WHATEVER THE INPUT: true; the input reads as it did. -/
def busFailsSpec : ChangeSpec := { name := "busFails", fn := fun _ => fun
  | [d1, d2, d3] => { results := [.lit (.bool true)], args := [d1, d2, d3] }
  | _ => none }
def busFailsRow : OpenClaim := { program := "ytdjmipkijimajaa", sum := "946f1b7ffdc96b876027d7767b6d8c7aaba800841e5050f21c28917948c0c779", func := "tinderbox/tinderboxlaw31.BusFails", spec := "busFails", inPlace := ["internal/abi.NoEscape", "internal/bytealg.MakeNoZero"], apart := false }
def BusFailsSaid : Prop := busFailsRow.holds Try.pinned (OpenSpec.ofChange busFailsSpec)

/-- ITS FALSE NEIGHBOUR: 'it returns false'. Refute it at one input. -/
def busFailsWrong : ChangeSpec := { name := "busFails", fn := fun _ => fun
  | [d1, d2, d3] => { results := [.lit (.bool false)], args := [d1, d2, d3] }
  | _ => none }
def BusFailsWrongFalsely : Prop := busFailsRow.holds Try.pinned (OpenSpec.ofChange busFailsWrong)

/-- 'tinderboxlaw31.BusOrder': WHATEVER THE INPUT: true; the input reads as it did. -/
def busOrderSpec : ChangeSpec := { name := "busOrder", fn := fun _ => fun
  | [d1, d2] => { results := [.lit (.bool true)], args := [d1, d2] }
  | _ => none }
def busOrderRow : OpenClaim := { program := "ytdjmipkijimajaa", sum := "946f1b7ffdc96b876027d7767b6d8c7aaba800841e5050f21c28917948c0c779", func := "tinderbox/tinderboxlaw31.BusOrder", spec := "busOrder", inPlace := ["internal/abi.NoEscape", "internal/bytealg.MakeNoZero"], apart := false }
def BusOrderSaid : Prop := busOrderRow.holds Try.pinned (OpenSpec.ofChange busOrderSpec)

/-- ITS FALSE NEIGHBOUR: 'it returns false'. Refute it at one input. -/
def busOrderWrong : ChangeSpec := { name := "busOrder", fn := fun _ => fun
  | [d1, d2] => { results := [.lit (.bool false)], args := [d1, d2] }
  | _ => none }
def BusOrderWrongFalsely : Prop := busOrderRow.holds Try.pinned (OpenSpec.ofChange busOrderWrong)

/-- 'tinderboxlaw31.BusWrites': WHATEVER THE INPUT: true; the input reads as it did. -/
def busWritesSpec : ChangeSpec := { name := "busWrites", fn := fun _ => fun
  | [d1, d2, d3] => { results := [.lit (.bool true)], args := [d1, d2, d3] }
  | _ => none }
def busWritesRow : OpenClaim := { program := "ytdjmipkijimajaa", sum := "946f1b7ffdc96b876027d7767b6d8c7aaba800841e5050f21c28917948c0c779", func := "tinderbox/tinderboxlaw31.BusWrites", spec := "busWrites", inPlace := ["internal/abi.NoEscape", "internal/bytealg.MakeNoZero"], apart := false }
def BusWritesSaid : Prop := busWritesRow.holds Try.pinned (OpenSpec.ofChange busWritesSpec)

/-- ITS FALSE NEIGHBOUR: 'it returns false'. Refute it at one input. -/
def busWritesWrong : ChangeSpec := { name := "busWrites", fn := fun _ => fun
  | [d1, d2, d3] => { results := [.lit (.bool false)], args := [d1, d2, d3] }
  | _ => none }
def BusWritesWrongFalsely : Prop := busWritesRow.holds Try.pinned (OpenSpec.ofChange busWritesWrong)

/-- 'tinderboxlaw31.BusWild': WHATEVER THE INPUT: true; the input reads as it did. -/
def busWildSpec : ChangeSpec := { name := "busWild", fn := fun _ => fun
  | [d1, d2] => { results := [.lit (.bool true)], args := [d1, d2] }
  | _ => none }
def busWildRow : OpenClaim := { program := "ytdjmipkijimajaa", sum := "946f1b7ffdc96b876027d7767b6d8c7aaba800841e5050f21c28917948c0c779", func := "tinderbox/tinderboxlaw31.BusWild", spec := "busWild", inPlace := ["internal/abi.NoEscape", "internal/bytealg.MakeNoZero"], apart := false }
def BusWildSaid : Prop := busWildRow.holds Try.pinned (OpenSpec.ofChange busWildSpec)

/-- ITS FALSE NEIGHBOUR: 'it returns false'. Refute it at one input. -/
def busWildWrong : ChangeSpec := { name := "busWild", fn := fun _ => fun
  | [d1, d2] => { results := [.lit (.bool false)], args := [d1, d2] }
  | _ => none }
def BusWildWrongFalsely : Prop := busWildRow.holds Try.pinned (OpenSpec.ofChange busWildWrong)

/-- 'tinderboxlaw31.BusNone': WHATEVER THE INPUT: true; the input reads as it did. -/
def busNoneSpec : ChangeSpec := { name := "busNone", fn := fun _ => fun
  | [d] => { results := [.lit (.bool true)], args := [d] }
  | _ => none }
def busNoneRow : OpenClaim := { program := "ytdjmipkijimajaa", sum := "946f1b7ffdc96b876027d7767b6d8c7aaba800841e5050f21c28917948c0c779", func := "tinderbox/tinderboxlaw31.BusNone", spec := "busNone", inPlace := ["internal/abi.NoEscape", "internal/bytealg.MakeNoZero"], apart := false }
def BusNoneSaid : Prop := busNoneRow.holds Try.pinned (OpenSpec.ofChange busNoneSpec)

/-- ITS FALSE NEIGHBOUR: 'it returns false'. Refute it at one input. -/
def busNoneWrong : ChangeSpec := { name := "busNone", fn := fun _ => fun
  | [d] => { results := [.lit (.bool false)], args := [d] }
  | _ => none }
def BusNoneWrongFalsely : Prop := busNoneRow.holds Try.pinned (OpenSpec.ofChange busNoneWrong)

/- THE SECOND FORM. 'bulk': how many values and letters a reading holds, each counted each time it is reached (what is shared counts as often as it is met; a slice's spare places count too). A statement '..UptoSaid' is the law's where the arguments, and the package variables that the reading takes, are together of bulk at most 1048576: NARROWER than '..Said'. Prove '..Said' where nothing that the law and all that it calls make is longer than what came in: it says more and counts as full. Else prove '..UptoSaid'. A law counts once. -/
mutual
def uptoBulk {H : Type} : DataW H → Nat
  | .lit (.string bytes) => bytes.length + 1
  | .lit _ => 1
  | .nil => 1
  | .ptr d => uptoBulk d + 1
  | .slice elems spare => uptoBulkAll elems + uptoBulkAll spare + 1
  | .agg parts => uptoBulkAll parts + 1
  | .iface _ d => uptoBulk d + 1
  | .map entries => uptoBulkEntries entries + 1
  | .held _ => 1
def uptoBulkAll {H : Type} : List (DataW H) → Nat
  | [] => 0
  | d :: r => uptoBulk d + uptoBulkAll r
def uptoBulkEntries {H : Type} : List (Lit × DataW H) → Nat
  | [] => 0
  | x :: r => uptoBulkEntry x + uptoBulkEntries r
def uptoBulkEntry {H : Type} : Lit × DataW H → Nat
  | (.string bytes, d) => bytes.length + uptoBulk d + 1
  | (_, d) => uptoBulk d + 1
 end
def uptoSmall : (H : Type) → List (DataW H) → Bool := fun _ ds => decide (uptoBulkAll ds ≤ 1048576)
def OpenSpec.upto (s : _root_.Go.ChangeSpec) : _root_.Go.OpenSpec := { _root_.Go.OpenSpec.ofChange s with cond := some uptoSmall }

/-- 'tinderboxlaw39.CounterRises', WHERE WHAT IT READS IS OF BULK AT MOST 1048576: true; the input reads as it did. -/
def counterRisesUptoRow : OpenClaim := { program := "ytdjmipkijimajaa", sum := "946f1b7ffdc96b876027d7767b6d8c7aaba800841e5050f21c28917948c0c779", func := "tinderbox/tinderboxlaw39.CounterRises", spec := "counterRises", inPlace := ["internal/abi.NoEscape", "internal/bytealg.MakeNoZero"], apart := false, narrowed := true }
def CounterRisesUptoSaid : Prop := counterRisesUptoRow.holds Try.pinned (OpenSpec.upto counterRisesSpec)

/-- 'tinderboxlaw39.CounterNone', WHERE WHAT IT READS IS OF BULK AT MOST 1048576: true; the input reads as it did. -/
def counterNoneUptoRow : OpenClaim := { program := "ytdjmipkijimajaa", sum := "946f1b7ffdc96b876027d7767b6d8c7aaba800841e5050f21c28917948c0c779", func := "tinderbox/tinderboxlaw39.CounterNone", spec := "counterNone", inPlace := ["internal/abi.NoEscape", "internal/bytealg.MakeNoZero"], apart := false, narrowed := true }
def CounterNoneUptoSaid : Prop := counterNoneUptoRow.holds Try.pinned (OpenSpec.upto counterNoneSpec)

/-- 'tinderboxlaw39.CounterCuts', WHERE WHAT IT READS IS OF BULK AT MOST 1048576: true; the input reads as it did. -/
def counterCutsUptoRow : OpenClaim := { program := "ytdjmipkijimajaa", sum := "946f1b7ffdc96b876027d7767b6d8c7aaba800841e5050f21c28917948c0c779", func := "tinderbox/tinderboxlaw39.CounterCuts", spec := "counterCuts", inPlace := ["internal/abi.NoEscape", "internal/bytealg.MakeNoZero"], apart := false, narrowed := true }
def CounterCutsUptoSaid : Prop := counterCutsUptoRow.holds Try.pinned (OpenSpec.upto counterCutsSpec)

/-- 'tinderboxlaw39.CounterTurns', WHERE WHAT IT READS IS OF BULK AT MOST 1048576: true; the input reads as it did. -/
def counterTurnsUptoRow : OpenClaim := { program := "ytdjmipkijimajaa", sum := "946f1b7ffdc96b876027d7767b6d8c7aaba800841e5050f21c28917948c0c779", func := "tinderbox/tinderboxlaw39.CounterTurns", spec := "counterTurns", inPlace := ["internal/abi.NoEscape", "internal/bytealg.MakeNoZero"], apart := false, narrowed := true }
def CounterTurnsUptoSaid : Prop := counterTurnsUptoRow.holds Try.pinned (OpenSpec.upto counterTurnsSpec)

/-- 'tinderboxlaw31.BusParams', WHERE WHAT IT READS IS OF BULK AT MOST 1048576: true; the input reads as it did. -/
def busParamsUptoRow : OpenClaim := { program := "ytdjmipkijimajaa", sum := "946f1b7ffdc96b876027d7767b6d8c7aaba800841e5050f21c28917948c0c779", func := "tinderbox/tinderboxlaw31.BusParams", spec := "busParams", inPlace := ["internal/abi.NoEscape", "internal/bytealg.MakeNoZero"], apart := false, narrowed := true }
def BusParamsUptoSaid : Prop := busParamsUptoRow.holds Try.pinned (OpenSpec.upto busParamsSpec)

/-- 'tinderboxlaw31.BusFails', WHERE WHAT IT READS IS OF BULK AT MOST 1048576: true; the input reads as it did. -/
def busFailsUptoRow : OpenClaim := { program := "ytdjmipkijimajaa", sum := "946f1b7ffdc96b876027d7767b6d8c7aaba800841e5050f21c28917948c0c779", func := "tinderbox/tinderboxlaw31.BusFails", spec := "busFails", inPlace := ["internal/abi.NoEscape", "internal/bytealg.MakeNoZero"], apart := false, narrowed := true }
def BusFailsUptoSaid : Prop := busFailsUptoRow.holds Try.pinned (OpenSpec.upto busFailsSpec)

/-- 'tinderboxlaw31.BusOrder', WHERE WHAT IT READS IS OF BULK AT MOST 1048576: true; the input reads as it did. -/
def busOrderUptoRow : OpenClaim := { program := "ytdjmipkijimajaa", sum := "946f1b7ffdc96b876027d7767b6d8c7aaba800841e5050f21c28917948c0c779", func := "tinderbox/tinderboxlaw31.BusOrder", spec := "busOrder", inPlace := ["internal/abi.NoEscape", "internal/bytealg.MakeNoZero"], apart := false, narrowed := true }
def BusOrderUptoSaid : Prop := busOrderUptoRow.holds Try.pinned (OpenSpec.upto busOrderSpec)

/-- 'tinderboxlaw31.BusWrites', WHERE WHAT IT READS IS OF BULK AT MOST 1048576: true; the input reads as it did. -/
def busWritesUptoRow : OpenClaim := { program := "ytdjmipkijimajaa", sum := "946f1b7ffdc96b876027d7767b6d8c7aaba800841e5050f21c28917948c0c779", func := "tinderbox/tinderboxlaw31.BusWrites", spec := "busWrites", inPlace := ["internal/abi.NoEscape", "internal/bytealg.MakeNoZero"], apart := false, narrowed := true }
def BusWritesUptoSaid : Prop := busWritesUptoRow.holds Try.pinned (OpenSpec.upto busWritesSpec)

/-- 'tinderboxlaw31.BusWild', WHERE WHAT IT READS IS OF BULK AT MOST 1048576: true; the input reads as it did. -/
def busWildUptoRow : OpenClaim := { program := "ytdjmipkijimajaa", sum := "946f1b7ffdc96b876027d7767b6d8c7aaba800841e5050f21c28917948c0c779", func := "tinderbox/tinderboxlaw31.BusWild", spec := "busWild", inPlace := ["internal/abi.NoEscape", "internal/bytealg.MakeNoZero"], apart := false, narrowed := true }
def BusWildUptoSaid : Prop := busWildUptoRow.holds Try.pinned (OpenSpec.upto busWildSpec)

/-- 'tinderboxlaw31.BusNone', WHERE WHAT IT READS IS OF BULK AT MOST 1048576: true; the input reads as it did. -/
def busNoneUptoRow : OpenClaim := { program := "ytdjmipkijimajaa", sum := "946f1b7ffdc96b876027d7767b6d8c7aaba800841e5050f21c28917948c0c779", func := "tinderbox/tinderboxlaw31.BusNone", spec := "busNone", inPlace := ["internal/abi.NoEscape", "internal/bytealg.MakeNoZero"], apart := false, narrowed := true }
def BusNoneUptoSaid : Prop := busNoneUptoRow.holds Try.pinned (OpenSpec.upto busNoneSpec)

end Rows
end Go.Proofs.Ytdjmipkijimajaa
