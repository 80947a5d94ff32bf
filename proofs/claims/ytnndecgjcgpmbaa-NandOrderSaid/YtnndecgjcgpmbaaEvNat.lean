/- One operation by itself: what it reads, what it tells, what it does to the heap. -/
import Derived.Test.YtnndecgjcgpmbaaEvFun
namespace Ev
open Go

def Opd.slots : Opd → List Nat
  | .t n => [n]
  | .c _ => []
def oslots : Option Opd → List Nat
  | none => []
  | some x => x.slots
def partSlots (ps : List (Nat × Nat × Opd)) : List Nat := ps.flatMap fun p => p.2.2.slots
def lslots (xs : List Opd) : List Nat := xs.flatMap Opd.slots
def AOp.slots : AOp → List Nat
  | .mv x | .box x | .load _ x | .nilc x | .isnil _ x | .isnils _ x | .un _ x | .conv _ x | .cstr x | .b2s x | .s2b x | .addr _ x | .field _ _ x | .ext x _ | .len x | .lens x | .clr _ x => x.slots
  | .pick c a b => c.slots ++ a.slots ++ b.slots
  | .new _ => []
  | .build _ ps => partSlots ps
  | .bslice _ _ _ ps => partSlots ps
  | .store _ x y | .bin _ x y | .eqb _ x y | .eqagg _ _ x y | .mk _ _ _ x y | .idxa _ x y | .idxarr _ _ x y | .index x y | .app _ _ x y | .cpy _ x y => x.slots ++ y.slots
  | .slc _ x lo hi mx => x.slots ++ (oslots lo ++ (oslots hi ++ oslots mx))
  | .slstr x lo hi => x.slots ++ (oslots lo ++ oslots hi)
  | .call _ xs | .min xs | .max xs => lslots xs

section
variable {calls : Nat → Option Callee} {e e' : Env}

theorem Opd.ev_congr {x : Opd} (h : ∀ t ∈ x.slots, e.get t = e'.get t) : x.ev e = x.ev e' := by
  cases x with
  | t n => exact h n (by simp [Opd.slots])
  | c w => rfl
theorem parts_congr : ∀ {ps : List (Nat × Nat × Opd)} {cs : List C}, (∀ t ∈ partSlots ps, e.get t = e'.get t) → fillParts e cs ps = fillParts e' cs ps
  | [], _, _ => rfl
  | (o, n, x) :: r, cs, h => by
    have hx : x.ev e = x.ev e' := Opd.ev_congr fun t ht => h t (by simp [partSlots]; exact .inl ht)
    have hr : ∀ cs, fillParts e cs r = fillParts e' cs r := fun cs => parts_congr fun t ht => h t (by simp only [partSlots, List.flatMap_cons, List.mem_append]; exact .inr ht)
    simp only [fillParts, hx, hr]
theorem list_congr : ∀ {xs : List Opd}, (∀ t ∈ lslots xs, e.get t = e'.get t) → xs.map (Opd.ev e) = xs.map (Opd.ev e')
  | [], _ => rfl
  | x :: r, h => by
    rw [List.map_cons, List.map_cons, Opd.ev_congr (x := x) fun t ht => h t (by simp [lslots]; exact .inl ht), list_congr (xs := r) fun t ht => h t (by simp only [lslots, List.flatMap_cons, List.mem_append]; exact .inr ht)]
theorem optI_congr {R0 : Type} {o : Option Opd} {d : Int} {k : Int → Option R0} (h : ∀ t ∈ oslots o, e.get t = e'.get t) : optI e o d k = optI e' o d k := by
  cases o with
  | none => rfl
  | some x => simp only [optI, Opd.ev_congr (x := x) h]

theorem evOp_congr {R0 : Type} {op : AOp} (h : ∀ t ∈ op.slots, e.get t = e'.get t) (H : Heap) (k : V → Heap → Option R0) : evOp calls op e H k = evOp calls op e' H k := by
  cases op <;> simp only [AOp.slots, List.mem_append] at h <;> simp only [evOp]
  case mv x => rw [Opd.ev_congr h]
  case pick c a b => rw [Opd.ev_congr (x := c) fun t ht => h t (.inl (.inl ht)), Opd.ev_congr (x := a) fun t ht => h t (.inl (.inr ht)), Opd.ev_congr (x := b) fun t ht => h t (.inr ht)]
  case build z ps => rw [parts_congr h]
  case bslice es l z ps => rw [parts_congr h]
  case call f xs => rw [list_congr h]
  case min xs => rw [list_congr h]
  case max xs => rw [list_congr h]
  case slc es x lo hi mx =>
    rw [Opd.ev_congr (x := x) fun t ht => h t (.inl ht)]
    simp only [optI_congr (o := lo) fun t ht => h t (.inr (.inl ht)), optI_congr (o := hi) fun t ht => h t (.inr (.inr (.inl ht))), optI_congr (o := mx) fun t ht => h t (.inr (.inr (.inr ht)))]
  case slstr x lo hi =>
    rw [Opd.ev_congr (x := x) fun t ht => h t (.inl ht)]
    simp only [optI_congr (o := lo) fun t ht => h t (.inr (.inl ht)), optI_congr (o := hi) fun t ht => h t (.inr (.inr ht))]
  all_goals first
    | rfl
    | (rename_i x; rw [Opd.ev_congr h]; done)
    | (rename_i x y; rw [Opd.ev_congr (x := x) fun t ht => h t (.inl ht), Opd.ev_congr (x := y) fun t ht => h t (.inr ht)]; done)
    | (rename_i x y; simp only [Opd.ev_congr (x := x) fun t ht => h t (.inl ht), Opd.ev_congr (x := y) fun t ht => h t (.inr ht)]; done)
    | (rename_i x y; simp only [Opd.ev_congr (x := x) h]; done)

theorem init_congr {R0 : Type} {op : AOp} (h : ∀ t ∈ op.slots, e.get t = e'.get t) (k : List C → Option R0) : initCells e op k = initCells e' op k := by
  cases op <;> simp only [AOp.slots, List.mem_append] at h <;> simp only [initCells]
  case box x => rw [Opd.ev_congr h]
  case bslice es l z ps => rw [parts_congr h]
  case mk es b z l c => rw [Opd.ev_congr (x := c) fun t ht => h t (.inr ht)]

/-! What follows stands apart. -/
def ev1 (calls : Nat → Option Callee) (op : AOp) (e : Env) (H : Heap) : Option (V × Heap) := evOp calls op e H fun v H' => some (v, H')

theorem int?_nat {R0 R1 : Type} (v : V) (k : Int → Option R0) (f : R0 → Option R1) : (v.int? k).bind f = v.int? fun n => (k n).bind f := by
  unfold V.int?; split <;> rfl
theorem optI_nat {R0 R1 : Type} (o : Option Opd) (d : Int) (k : Int → Option R0) (f : R0 → Option R1) : (optI e o d k).bind f = optI e o d fun n => (k n).bind f := by
  unfold optI; split
  · rfl
  · exact int?_nat _ _ _
theorem cond_nat {R0 R1 : Type} (b : Bool) (x y : Option R0) (f : R0 → Option R1) : (bif b then x else y).bind f = bif b then x.bind f else y.bind f := by cases b <;> rfl
theorem binI_nat {R0 R1 : Type} (op : BinOp) (kd : IntKind) (a b : Int) (H : Heap) (k : V → Heap → Option R0) (f : R0 → Option R1) : (binI op kd a b H k).bind f = binI op kd a b H fun v H => (k v H).bind f := by
  cases op <;> simp only [binI, cond_nat] <;> rfl
theorem binS_nat {R0 R1 : Type} (op : BinOp) (a b : Bytes) (H : Heap) (k : V → Heap → Option R0) (f : R0 → Option R1) : (binS op a b H k).bind f = binS op a b H fun v H => (k v H).bind f := by
  cases op <;> simp only [binS, Option.bind_assoc] <;> rfl
theorem shiftI_nat {R0 R1 : Type} (op : BinOp) (kd : IntKind) (a b : Int) (H : Heap) (k : V → Heap → Option R0) (f : R0 → Option R1) : (shiftI op kd a b H k).bind f = shiftI op kd a b H fun v H => (k v H).bind f := by
  cases op <;> simp only [shiftI, cond_nat] <;> rfl
theorem binV_nat {R0 R1 : Type} (op : BinOp) (x y : V) (H : Heap) (k : V → Heap → Option R0) (f : R0 → Option R1) : (binV op x y H k).bind f = binV op x y H fun v H => (k v H).bind f := by
  unfold binV; split
  · simp only [cond_nat, shiftI_nat, binI_nat]; rfl
  · exact binS_nat _ _ _ _ _ _
  · rfl
theorem unV_nat {R0 R1 : Type} (op : UnOp) (x : V) (H : Heap) (k : V → Heap → Option R0) (f : R0 → Option R1) : (unV op x H k).bind f = unV op x H fun v H => (k v H).bind f := by
  unfold unV; split <;> rfl
theorem minI_nat {R0 R1 : Type} : ∀ (l : List V) (a : Int) (k : Int → Option R0) (f : R0 → Option R1), (minI a l k).bind f = minI a l fun n => (k n).bind f
  | [], a, k, f => rfl
  | v :: r, a, k, f => by
    match v with
    | .w (.one (.int kd b)) => exact minI_nat r _ k f
    | .und => rfl
    | .off => rfl
    | .tup _ => rfl
    | .w (.agg _) => rfl
    | .w (.one (.bool _)) => rfl
    | .w (.one (.str _)) => rfl
    | .w (.one (.ptr _)) => rfl
    | .w (.one (.sl _ _)) => rfl
    | .w (.one (.mp _)) => rfl
theorem maxI_nat {R0 R1 : Type} : ∀ (l : List V) (a : Int) (k : Int → Option R0) (f : R0 → Option R1), (maxI a l k).bind f = maxI a l fun n => (k n).bind f
  | [], a, k, f => rfl
  | v :: r, a, k, f => by
    match v with
    | .w (.one (.int kd b)) => exact maxI_nat r _ k f
    | .und => rfl
    | .off => rfl
    | .tup _ => rfl
    | .w (.agg _) => rfl
    | .w (.one (.bool _)) => rfl
    | .w (.one (.str _)) => rfl
    | .w (.one (.ptr _)) => rfl
    | .w (.one (.sl _ _)) => rfl
    | .w (.one (.mp _)) => rfl

set_option linter.unusedSimpArgs false in
theorem evOp_nat {R0 R1 : Type} (op : AOp) (H : Heap) (k : V → Heap → Option R0) (f : R0 → Option R1) : (evOp calls op e H k).bind f = evOp calls op e H fun v H => (k v H).bind f := by
  cases op <;> simp only [evOp, Option.bind_assoc, int?_nat, binV_nat, unV_nat]
  case field ty off x =>
    split
    · cases ty <;> first | rfl | (simp only [Option.bind_assoc]; done) | (simp only [Option.bind_assoc]; rfl)
    · rfl
  case call g xs =>
    split <;> first | rfl | (simp only [Option.bind_assoc]; done) | (simp only [Option.bind_assoc]; rfl)
  all_goals first
    | rfl
    | (split <;> first | rfl | (simp only [Option.bind_assoc, int?_nat, optI_nat, cond_nat, minI_nat, maxI_nat]; done) | (simp only [Option.bind_assoc, int?_nat, optI_nat, cond_nat, minI_nat, maxI_nat]; rfl))

theorem evOp_ev1 {R0 : Type} (op : AOp) (H : Heap) (k : V → Heap → Option R0) : evOp calls op e H k = (ev1 calls op e H).bind fun p => k p.1 p.2 := by
  unfold ev1
  rw [evOp_nat]
  rfl

theorem init_nat {R0 R1 : Type} (op : AOp) (k : List C → Option R0) (f : R0 → Option R1) : (initCells e op k).bind f = initCells e op fun cs => (k cs).bind f := by
  cases op <;> simp only [initCells, Option.bind_assoc, int?_nat] <;> first | rfl | (split <;> rfl)

end
end Ev
