/- What the functions of the package Maps compute: abstract code, and a function of plain Lean for each; the kernel checks that they are the same. Written by gen2.py. -/
import Derived.Test.YtbnghapbakaheaaEvCore
import Derived.KernelRfl
set_option linter.unusedVariables false
set_option maxRecDepth 100000
namespace Ev
open Go (IntKind BinOp UnOp)

/-! ### maps.Keys[map[int]tinderbox/state.space,int,tinderbox/state.space] -/
def maps_Keys_map_int_state_space_int_state_space.af : AFun := ⟨[.one .mp], [.one (.clo 64 1)], [.t 2],
 .seq (.reg [.op ⟨0, some 1, .box (.t 0), none⟩,
  .op ⟨1, some 2, .any, none⟩])
 (.seq (.reg [.op ⟨0, some 3, .mkf 64 [(.t 1)], none⟩,
  .op ⟨1, some 2, .mv (.t 3), none⟩])
 (.ret))⟩
noncomputable def maps_Keys_map_int_state_space_int_state_space (x0 : Option Nat) (H : Heap) : Option (((Ptr × Unit) × Unit) × Heap) :=
 let H1 : Heap := H ++ [Blk.cells [.mp x0] .exact]
 some (((some (H.length, 0), ()), ()), H1)
noncomputable def maps_Keys_map_int_state_space_int_state_space.c : Callee := .full [.one .mp] [.one (.clo 64 1)] (fun x H => maps_Keys_map_int_state_space_int_state_space x.1 H)
noncomputable def maps_Keys_map_int_state_space_int_state_space.calls : Nat → Option Callee
  | _ => none
theorem maps_Keys_map_int_state_space_int_state_space.eq : evFull maps_Keys_map_int_state_space_int_state_space.calls maps_Keys_map_int_state_space_int_state_space.af = (fun x H => maps_Keys_map_int_state_space_int_state_space x.1 H) := by kernel_rfl
end Ev
