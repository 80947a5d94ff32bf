/- What the functions of the package Maps compute: abstract code, and a function of plain Lean for each; the kernel checks that they are the same. Written by gen2.py. -/
import Derived.Test.YtfmefnejaocopaaEvCore
import Derived.KernelRfl
set_option linter.unusedVariables false
set_option maxRecDepth 100000
namespace Ev
open Go (IntKind BinOp UnOp)

/-! ### maps.Keys[tinderbox/model.tree,int,tinderbox/model.space] -/
def maps_Keys_model_tree_int_model_space.af : AFun := ⟨[.one .mp], [.one (.clo 97 1)], [.t 2],
 .seq (.reg [.op ⟨0, some 1, .box (.t 0), none⟩,
  .op ⟨1, some 2, .any, none⟩])
 (.seq (.reg [.op ⟨0, some 3, .mkf 97 [(.t 1)], none⟩,
  .op ⟨1, some 2, .mv (.t 3), none⟩])
 (.ret))⟩
noncomputable def maps_Keys_model_tree_int_model_space (x0 : Option Nat) (H : Heap) : Option (((Ptr × Unit) × Unit) × Heap) :=
 let H1 : Heap := H ++ [Blk.cells [.mp x0] .exact]
 some (((some (H.length, 0), ()), ()), H1)
noncomputable def maps_Keys_model_tree_int_model_space.c : Callee := .full [.one .mp] [.one (.clo 97 1)] (fun x H => maps_Keys_model_tree_int_model_space x.1 H)
noncomputable def maps_Keys_model_tree_int_model_space.calls : Nat → Option Callee
  | _ => none
theorem maps_Keys_model_tree_int_model_space.eq : evFull maps_Keys_model_tree_int_model_space.calls maps_Keys_model_tree_int_model_space.af = (fun x H => maps_Keys_model_tree_int_model_space x.1 H) := by kernel_rfl

/-! ### maps.Keys[map[int]tinderbox/model.leaf,int,tinderbox/model.leaf] -/
def maps_Keys_map_int_model_leaf_int_model_leaf.af : AFun := ⟨[.one .mp], [.one (.clo 98 1)], [.t 2],
 .seq (.reg [.op ⟨0, some 1, .box (.t 0), none⟩,
  .op ⟨1, some 2, .any, none⟩])
 (.seq (.reg [.op ⟨0, some 3, .mkf 98 [(.t 1)], none⟩,
  .op ⟨1, some 2, .mv (.t 3), none⟩])
 (.ret))⟩
noncomputable def maps_Keys_map_int_model_leaf_int_model_leaf (x0 : Option Nat) (H : Heap) : Option (((Ptr × Unit) × Unit) × Heap) :=
 let H1 : Heap := H ++ [Blk.cells [.mp x0] .exact]
 some (((some (H.length, 0), ()), ()), H1)
noncomputable def maps_Keys_map_int_model_leaf_int_model_leaf.c : Callee := .full [.one .mp] [.one (.clo 98 1)] (fun x H => maps_Keys_map_int_model_leaf_int_model_leaf x.1 H)
noncomputable def maps_Keys_map_int_model_leaf_int_model_leaf.calls : Nat → Option Callee
  | _ => none
theorem maps_Keys_map_int_model_leaf_int_model_leaf.eq : evFull maps_Keys_map_int_model_leaf_int_model_leaf.calls maps_Keys_map_int_model_leaf_int_model_leaf.af = (fun x H => maps_Keys_map_int_model_leaf_int_model_leaf x.1 H) := by kernel_rfl
end Ev
