/- Is abstract code the code of the program? Checks that the kernel reckons. -/
import Derived.Test.YtnndecgjcgpmbaaEvRel
namespace Ev
open Go

def cOK : C → Value → Bool
  | .int k n, .int k' n' => decide (k = k') && decide (n = n')
  | .bool b, .bool b' => b == b'
  | .str s, .string x => decide (x.data.toList = s)
  | .ptr none, .pointer none => true
  | .sl _ ⟨none, 0, 0⟩, .slice none 0 0 => true
  | .mp none, .map none => true
  | _, _ => false
def csOK : List C → List Value → Bool
  | [], [] => true
  | c :: cs, v :: vs => cOK c v && csOK cs vs
  | _, _ => false
def wOK : W → Value → Bool
  | .one c, v => cOK c v
  | .agg cs, .agg vs => csOK cs vs.toList
  | _, _ => false

theorem cOK_rel {c : C} {v : Value} (h : cOK c v = true) (ρ : Rho) : CRel ρ c v := by
  unfold cOK at h
  split at h <;> simp_all [CRel]
theorem csOK_rel : ∀ {cs : List C} {vs : List Value}, csOK cs vs = true → ∀ ρ, CsRel ρ cs vs
  | [], [], _, _ => trivial
  | c :: cs, v :: vs, h, ρ => by
    simp only [csOK, Bool.and_eq_true] at h
    exact ⟨cOK_rel h.1 ρ, csOK_rel h.2 ρ⟩
  | [], _ :: _, h, _ => by simp [csOK] at h
  | _ :: _, [], h, _ => by simp [csOK] at h
theorem wOK_rel {c : W} {v : Value} (h : wOK c v = true) (ρ : Rho) : WRel ρ c v := by
  cases c with
  | one c => exact cOK_rel h ρ
  | agg cs =>
    cases v <;> simp only [wOK] at h <;> try contradiction
    rename_i vs
    exact ⟨vs.toList, by simp, csOK_rel h ρ⟩

def opdOK : Opd → Operand → Bool
  | .t n, .tmp m => decide (n = m)
  | .c w, .const v => wOK w v
  | _, _ => false
def oopdOK : Option Opd → Option Operand → Bool
  | none, none => true
  | some x, some y => opdOK x y
  | _, _ => false
def opdsOK : List Opd → List Operand → Bool
  | [], [] => true
  | x :: xs, y :: ys => opdOK x y && opdsOK xs ys
  | _, _ => false

def EnvRel (ρ : Rho) (e : Env) (a : Act) : Prop := ∀ t, VRel ρ (e.get t) (a.tmps.getD t undef)

theorem opd_rel {ρ : Rho} {e : Env} {a : Act} (h : EnvRel ρ e a) {x : Opd} {y : Operand} (ok : opdOK x y = true) : VRel ρ (x.ev e) (a.eval y) := by
  cases x with
  | t n =>
    cases y <;> simp only [opdOK] at ok <;> try contradiction
    have ok := of_decide_eq_true ok
    subst ok
    exact h n
  | c w =>
    cases y <;> simp only [opdOK] at ok <;> try contradiction
    exact wOK_rel ok ρ

section
variable (P : Program)
def sizeIs (t : TypeId) (n : Nat) : Bool := match P.info? t with
  | some i => decide (i.size = n)
  | none => false
def bytesIs (t : TypeId) (n : Nat) : Bool := match P.info? t with
  | some i => decide (i.bytes = n) && decide (n ≤ 2 ^ 32)
  | none => false
def zeroIs (t : TypeId) (cs : List C) : Bool := match P.info? t with
  | some i => match i.zero with
    | some z => csOK cs z.cells.toList
    | none => false
  | none => false
def aggB (t : TypeId) : Option Bool := match P.underlying t with
  | some (.struct _) => some true
  | some (.array _ _) => some true
  | some _ => some false
  | none => none
def tyOK (t : TypeId) : Ty → Bool
  | .one _ => decide (aggB P t = some false)
  | .agg cs => decide (aggB P t = some true) && sizeIs P t cs.length
def elemIs (t : TypeId) : Option TypeId := match P.underlying t with
  | some (.slice e) => some e
  | _ => none
def slOK (t : TypeId) (es : Nat) : Bool := match elemIs P t with
  | some e => sizeIs P e es
  | none => false
def isStr (t : TypeId) : Bool := match P.underlying t with
  | some .string => true
  | _ => false
def isInt (t : TypeId) (k : IntKind) : Bool := match P.underlying t with
  | some (.int k') => decide (k = k')
  | _ => false
/-- A struct's cells, all of them numbers, bools, texts. -/
def plainCts : Nat → TypeId → Option (List CT)
  | 0, _ => none
  | _ + 1, t => match P.underlying t with
    | some (.int k) => some [.int k]
    | some .bool => some [.bool]
    | some .string => some [.str]
    | _ => none
def fieldsCts (off : Nat) : List Field → Option (List CT)
  | [] => some []
  | f :: r => bif decide (f.offset = off) && decide (f.name ≠ "_") then
      match plainCts P 1 f.type with
      | some [c] => (fieldsCts (off + 1) r).map (c :: ·)
      | _ => none
    else none
def structCts (t : TypeId) : Option (List CT) := match P.underlying t with
  | some (.struct fs) => bif P.stoodInHeld t || P.eqGuardType P.depth t then none else fieldsCts P 0 fs.toList
  | _ => none

def partsOK (place : Nat → Option (Nat × Nat)) : List (Nat × Nat × Opd) → List (Nat × Operand) → Bool
  | [], [] => true
  | (o, n, x) :: r, (i, y) :: s => decide (place i = some (o, n)) && opdOK x y && partsOK place r s
  | _, _ => false
def opOK (fids : Nat → Option FuncId) : AOp → Op → Bool
  | .mv x, .move y => opdOK x y
  | .mv x, .assign y => opdOK x y
  | .pick c a b, .pick c' a' b' => opdOK c c' && opdOK a a' && opdOK b b'
  | .new z, .alloc t => zeroIs P t z
  | .box x, .box _ y => opdOK x y
  | .build z ps, .build t parts =>
    zeroIs P t z && (match P.underlying t with
    | some (.struct fs) => (match fs.toList.mapM (fun f => (P.info? f.type).map fun i => (f.offset, i.size)) with
      | some places => partsOK (places.toArray[·]?) ps parts.toList
      | none => false)
    | some (.array _ e) => (match P.info? e with
      | some j => partsOK (fun i => some (i * j.size, j.size)) ps parts.toList
      | none => false)
    | _ => false)
  | .bslice es len z ps, .buildSlice t len' parts =>
    match elemIs P t with
    | some e => sizeIs P e es && decide (len = len') && decide (len * es ≤ 2 ^ 24) && decide (0 < es) && (match P.info? e with
      | some i => match i.zero with
        | some zz => decide (zz.cells.size = es) && csOK z ((Array.range (len * es)).map (zz.cells[· % zz.cells.size]!)).toList
        | none => false
      | none => false) && partsOK (fun i => some (i * es, es)) ps parts.toList
    | none => false
  | .load ty x, .load t y => opdOK x y && tyOK P t ty
  | .store n a x, .store t b y => opdOK a b && opdOK x y && sizeIs P t n
  | .nilc x, .nilCheck y => opdOK x y
  | .bin op x y, .binOp op' _ x' y' _ => decide (op = op') && opdOK x x' && opdOK y y'
  | .eqb neg x y, .binOp op t x' y' _ => decide (op = (bif neg then .neq else .eql)) && opdOK x x' && opdOK y y' && (match P.underlying t with | some .bool => true | _ => false)
  | .isnil neg x, .binOp op t x' y' _ => decide (op = (bif neg then .neq else .eql)) && opdOK x x' && (match y' with | .const (.pointer none) => true | _ => false) &&
      (match P.underlying t with | some (.pointer _) => true | _ => false)
  | .isnils neg x, .binOp op t x' y' _ => decide (op = (bif neg then .neq else .eql)) && opdOK x x' && (match y' with | .const (.slice none 0 0) => true | _ => false) &&
      (match P.underlying t with | some (.slice _) => true | _ => false)
  | .eqagg neg ts x y, .binOp op t x' y' _ => decide (op = (bif neg then .neq else .eql)) && opdOK x x' && opdOK y y' && decide (structCts P t = some ts)
  | .un op x, .unOp op' _ x' => decide (op = op') && opdOK x x'
  | .conv k x, .convert s d y => opdOK x y && isInt P d k && (P.underlying s).isSome
  | .cstr x, .convert s d y => opdOK x y && isStr P d && (P.underlying s).isSome
  | .b2s x, .convert s d y => opdOK x y && isStr P d && (match elemIs P s with | some e => isInt P e .u8 | none => false)
  | .s2b x, .convert s d y => opdOK x y && isStr P s && (match elemIs P d with | some e => isInt P e .u8 | none => false)
  | .mk es bytes z l c, .makeSlice t l' c' => opdOK l l' && opdOK c c' && decide (0 < es) && decide (z.length = es) && (match elemIs P t with
    | some e => sizeIs P e es && bytesIs P e bytes && zeroIs P e z
    | none => false)
  | .slc es x lo hi mx, .slice t y lo' hi' mx' => opdOK x y && oopdOK lo lo' && oopdOK hi hi' && oopdOK mx mx' && slOK P t es && (mx.isNone || hi.isSome)
  | .slstr x lo hi, .slice t y lo' hi' mx' => opdOK x y && oopdOK lo lo' && oopdOK hi hi' && mx'.isNone && isStr P t
  | .addr off x, .fieldAddr t y f => opdOK x y && (match P.underlying t with
    | some (.struct fs) => match fs[f]? with
      | some fl => decide (fl.offset = off) && (match P.info? fl.type with | some i => decide (i.size ≠ 0) | none => false)
      | none => false
    | _ => false)
  | .field ty off x, .field t y f => opdOK x y && (match P.underlying t with
    | some (.struct fs) => match fs[f]? with
      | some fl => decide (fl.offset = off) && tyOK P fl.type ty
      | none => false
    | _ => false)
  | .idxa es x i, .indexAddr t y j => opdOK x y && opdOK i j && slOK P t es
  | .idxarr es n x i, .indexAddr t y j => opdOK x y && opdOK i j && (match P.underlying t with
    | some (.array m e) => decide (m = n) && sizeIs P e es
    | _ => false)
  | .index x i, .index t y j => opdOK x y && opdOK i j && isStr P t
  | .ext x i, .extract y j => opdOK x y && decide (i = j)
  | .call f args, .call c => (match c.callee with
    | .value (.func g) => decide (fids f = some g) && opdsOK args c.args.toList
    | _ => false)
  | .len x, .call c => (match c.callee, c.args.toList, c.argTypes[0]? with
    | .builtin .len, y :: _, some t => opdOK x y && (elemIs P t).isSome
    | _, _, _ => false)
  | .lens x, .call c => (match c.callee, c.args.toList, c.argTypes[0]? with
    | .builtin .len, y :: _, some t => opdOK x y && isStr P t
    | _, _, _ => false)
  | .app es bytes s x, .call c => (match c.callee, c.args.toList, c.argTypes.toList with
    | .builtin .append, [y, z], [t, u] => opdOK s y && opdOK x z && decide (0 < es) && (isStr P u || (elemIs P u).isSome) && (match elemIs P t with
      | some e => sizeIs P e es && bytesIs P e bytes && (match P.info? e with
        | some i => (match i.zero with | some zz => decide (zz.cells.size = es) && (zz.cells.all Value.oneC) | none => false)
        | none => false)
      | none => false)
    | _, _, _ => false)
  | .cpy es d s, .call c => (match c.callee, c.args.toList, c.argTypes[0]? with
    | .builtin .copy, [y, z], some t => opdOK d y && opdOK s z && slOK P t es
    | _, _, _ => false)
  | .clr z x, .call c => (match c.callee, c.args.toList, c.argTypes[0]? with
    | .builtin .clear, [y], some t => opdOK x y && decide (0 < z.length) && (match elemIs P t with
      | some e => sizeIs P e z.length && zeroIs P e z
      | none => false)
    | _, _, _ => false)
  | .min xs, .call c => (match c.callee with
    | .builtin .min => opdsOK xs c.args.toList
    | _ => false)
  | .max xs, .call c => (match c.callee with
    | .builtin .max => opdsOK xs c.args.toList
    | _ => false)
  | _, _ => false
end
end Ev
