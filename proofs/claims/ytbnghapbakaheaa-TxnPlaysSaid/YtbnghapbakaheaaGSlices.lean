/- What the functions of the package Slices compute: abstract code, and a function of plain Lean for each; the kernel checks that they are the same. Written by gen2.py. -/
import Derived.Test.YtbnghapbakaheaaEvCore
import Derived.KernelRfl
set_option linter.unusedVariables false
set_option maxRecDepth 100000
namespace Ev
open Go (IntKind BinOp UnOp)

/-! ### slices.Clone[[]tinderbox/api.Change,tinderbox/api.Change] -/
def slices_Clone_api_Change_api_Change.af : AFun := ⟨[.one (.sl 7)], [.one (.sl 7)], [.t 2],
 .seq (.reg [.op ⟨0, some 2, .mv (.c (.one (.sl 7 (⟨none, 0, 0⟩)))), none⟩])
 (.seq (.seq (.reg [.op ⟨0, some 3, .mv (.t 0), none⟩,
  .op ⟨1, some 4, .isnils false (.t 3), none⟩])
 (.cond (.t 4) (.seq (.reg [.op ⟨0, some 2, .mv (.c (.one (.sl 7 (⟨none, 0, 0⟩)))), none⟩])
 (.ret)) (.skip)))
 (.seq (.reg [.op ⟨0, some 5, .bslice 7 0 [] [], none⟩,
  .op ⟨1, some 6, .mv (.t 0), none⟩,
  .op ⟨2, some 7, .app 7 64 (.t 5) (.t 6), none⟩,
  .op ⟨3, some 2, .mv (.t 7), none⟩])
 (.ret)))⟩
noncomputable def slices_Clone_api_Change_api_Change (x0 : Sl) (H : Heap) : Option ((Sl × Unit) × Heap) :=
 cond (Option.isNone x0.p) (
 some ((⟨none, 0, 0⟩, ()), H)) (
 let H1 : Heap := H ++ [Blk.cells [] .exact]
 (slRow H1 7 x0).bind fun (cs2 : (List C)) =>
 (appS H1 7 64 (⟨some (H.length, 0), 0, 0⟩) x0.len cs2).bind fun (p3 : (Sl × Heap)) =>
 some ((p3.1, ()), p3.2))
noncomputable def slices_Clone_api_Change_api_Change.c : Callee := .full [.one (.sl 7)] [.one (.sl 7)] (fun x H => slices_Clone_api_Change_api_Change x.1 H)
noncomputable def slices_Clone_api_Change_api_Change.calls : Nat → Option Callee
  | _ => none
theorem slices_Clone_api_Change_api_Change.eq : evFull slices_Clone_api_Change_api_Change.calls slices_Clone_api_Change_api_Change.af = (fun x H => slices_Clone_api_Change_api_Change x.1 H) := by kernel_rfl
end Ev
