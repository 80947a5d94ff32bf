/- What the functions of the package Maps compute: abstract code, and a function of plain Lean for each; the kernel checks that they are the same. Written by gen2.py. -/
import Derived.Test.YtfmefnejaocopaaEvCore
import Derived.KernelRfl
set_option linter.unusedVariables false
set_option maxRecDepth 100000
namespace Ev
open Go (IntKind BinOp UnOp)

/-! ### maps.Keys[map[int]tinderbox/state.space,int,tinderbox/state.space] -/
def maps_Keys_map_int_state_space_int_state_space.af : AFun := ⟨[.one .mp], [.one (.clo 99 1)], [.t 2],
 .seq (.reg [.op ⟨0, some 1, .box (.t 0), none⟩,
  .op ⟨1, some 2, .any, none⟩])
 (.seq (.reg [.op ⟨0, some 3, .mkf 99 [(.t 1)], none⟩,
  .op ⟨1, some 2, .mv (.t 3), none⟩])
 (.ret))⟩
noncomputable def maps_Keys_map_int_state_space_int_state_space (x0 : Option Nat) (H : Heap) : Option (((Ptr × Unit) × Unit) × Heap) :=
 let H1 : Heap := H ++ [Blk.cells [.mp x0] .exact]
 some (((some (H.length, 0), ()), ()), H1)
noncomputable def maps_Keys_map_int_state_space_int_state_space.c : Callee := .full [.one .mp] [.one (.clo 99 1)] (fun x H => maps_Keys_map_int_state_space_int_state_space x.1 H)
noncomputable def maps_Keys_map_int_state_space_int_state_space.calls : Nat → Option Callee
  | _ => none
theorem maps_Keys_map_int_state_space_int_state_space.eq : evFull maps_Keys_map_int_state_space_int_state_space.calls maps_Keys_map_int_state_space_int_state_space.af = (fun x H => maps_Keys_map_int_state_space_int_state_space x.1 H) := by kernel_rfl

/-! ### maps.Keys[map[int]int,int,int] -/
def maps_Keys_map_int_int_int_int.af : AFun := ⟨[.one .mp], [.one (.clo 92 1)], [.t 2],
 .seq (.reg [.op ⟨0, some 1, .box (.t 0), none⟩,
  .op ⟨1, some 2, .any, none⟩])
 (.seq (.reg [.op ⟨0, some 3, .mkf 92 [(.t 1)], none⟩,
  .op ⟨1, some 2, .mv (.t 3), none⟩])
 (.ret))⟩
noncomputable def maps_Keys_map_int_int_int_int (x0 : Option Nat) (H : Heap) : Option (((Ptr × Unit) × Unit) × Heap) :=
 let H1 : Heap := H ++ [Blk.cells [.mp x0] .exact]
 some (((some (H.length, 0), ()), ()), H1)
noncomputable def maps_Keys_map_int_int_int_int.c : Callee := .full [.one .mp] [.one (.clo 92 1)] (fun x H => maps_Keys_map_int_int_int_int x.1 H)
noncomputable def maps_Keys_map_int_int_int_int.calls : Nat → Option Callee
  | _ => none
theorem maps_Keys_map_int_int_int_int.eq : evFull maps_Keys_map_int_int_int_int.calls maps_Keys_map_int_int_int_int.af = (fun x H => maps_Keys_map_int_int_int_int x.1 H) := by kernel_rfl

/-! ### maps.Keys[map[int]bool,int,bool] -/
def maps_Keys_map_int_bool_int_bool.af : AFun := ⟨[.one .mp], [.one (.clo 93 1)], [.t 2],
 .seq (.reg [.op ⟨0, some 1, .box (.t 0), none⟩,
  .op ⟨1, some 2, .any, none⟩])
 (.seq (.reg [.op ⟨0, some 3, .mkf 93 [(.t 1)], none⟩,
  .op ⟨1, some 2, .mv (.t 3), none⟩])
 (.ret))⟩
noncomputable def maps_Keys_map_int_bool_int_bool (x0 : Option Nat) (H : Heap) : Option (((Ptr × Unit) × Unit) × Heap) :=
 let H1 : Heap := H ++ [Blk.cells [.mp x0] .exact]
 some (((some (H.length, 0), ()), ()), H1)
noncomputable def maps_Keys_map_int_bool_int_bool.c : Callee := .full [.one .mp] [.one (.clo 93 1)] (fun x H => maps_Keys_map_int_bool_int_bool x.1 H)
noncomputable def maps_Keys_map_int_bool_int_bool.calls : Nat → Option Callee
  | _ => none
theorem maps_Keys_map_int_bool_int_bool.eq : evFull maps_Keys_map_int_bool_int_bool.calls maps_Keys_map_int_bool_int_bool.af = (fun x H => maps_Keys_map_int_bool_int_bool x.1 H) := by kernel_rfl

/-! ### maps.Keys[tinderbox/model.tree,int,tinderbox/model.space] -/
def maps_Keys_model_tree_int_model_space.af : AFun := ⟨[.one .mp], [.one (.clo 97 1)], [.t 2],
 .seq (.reg [.op ⟨0, some 1, .box (.t 0), none⟩,
  .op ⟨1, some 2, .any, none⟩])
 (.seq (.reg [.op ⟨0, some 3, .mkf 97 [(.t 1)], none⟩,
  .op ⟨1, some 2, .mv (.t 3), none⟩])
 (.ret))⟩
noncomputable def maps_Keys_model_tree_int_model_space (x0 : Option Nat) (H : Heap) : Option (((Ptr × Unit) × Unit) × Heap) :=
 let H1 : Heap := H ++ [Blk.cells [.mp x0] .exact]
 some (((some (H.length, 0), ()), ()), H1)
noncomputable def maps_Keys_model_tree_int_model_space.c : Callee := .full [.one .mp] [.one (.clo 97 1)] (fun x H => maps_Keys_model_tree_int_model_space x.1 H)
noncomputable def maps_Keys_model_tree_int_model_space.calls : Nat → Option Callee
  | _ => none
theorem maps_Keys_model_tree_int_model_space.eq : evFull maps_Keys_model_tree_int_model_space.calls maps_Keys_model_tree_int_model_space.af = (fun x H => maps_Keys_model_tree_int_model_space x.1 H) := by kernel_rfl

/-! ### maps.Keys[map[int]tinderbox/model.leaf,int,tinderbox/model.leaf] -/
def maps_Keys_map_int_model_leaf_int_model_leaf.af : AFun := ⟨[.one .mp], [.one (.clo 98 1)], [.t 2],
 .seq (.reg [.op ⟨0, some 1, .box (.t 0), none⟩,
  .op ⟨1, some 2, .any, none⟩])
 (.seq (.reg [.op ⟨0, some 3, .mkf 98 [(.t 1)], none⟩,
  .op ⟨1, some 2, .mv (.t 3), none⟩])
 (.ret))⟩
noncomputable def maps_Keys_map_int_model_leaf_int_model_leaf (x0 : Option Nat) (H : Heap) : Option (((Ptr × Unit) × Unit) × Heap) :=
 let H1 : Heap := H ++ [Blk.cells [.mp x0] .exact]
 some (((some (H.length, 0), ()), ()), H1)
noncomputable def maps_Keys_map_int_model_leaf_int_model_leaf.c : Callee := .full [.one .mp] [.one (.clo 98 1)] (fun x H => maps_Keys_map_int_model_leaf_int_model_leaf x.1 H)
noncomputable def maps_Keys_map_int_model_leaf_int_model_leaf.calls : Nat → Option Callee
  | _ => none
theorem maps_Keys_map_int_model_leaf_int_model_leaf.eq : evFull maps_Keys_map_int_model_leaf_int_model_leaf.calls maps_Keys_map_int_model_leaf_int_model_leaf.af = (fun x H => maps_Keys_map_int_model_leaf_int_model_leaf x.1 H) := by kernel_rfl
end Ev
