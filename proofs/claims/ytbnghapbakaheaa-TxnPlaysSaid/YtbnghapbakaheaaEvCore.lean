/- The evaluator: a deterministic meaning of abstract code over a heap of typed cells. Definitions alone. -/
import GoSem.Core.Sem
namespace Ev
open Go (IntKind BinOp UnOp)

abbrev Bytes := List UInt8
/-- A pointer: block and cell. -/
abbrev Ptr := Option (Nat × Nat)
structure Sl where
  p : Ptr
  len : Nat
  cap : Nat
  deriving DecidableEq

def Sl.nil : Sl := ⟨none, 0, 0⟩

/-- Types of one cell. -/
inductive CT where
  | int (k : IntKind)
  | bool
  | str
  | ptr
  | sl (es : Nat)
  | mp
  | fn (g : Nat)
  | clo (g n : Nat)
  deriving DecidableEq

/-- What a cell holds. -/
inductive C where
  | int (k : IntKind) (n : Int)
  | bool (b : Bool)
  | str (s : Bytes)
  | ptr (p : Ptr)
  | sl (es : Nat) (s : Sl)
  | mp (r : Option Nat)
  | fn (g : Nat)
  | clo (g : Nat) (ps : List Ptr)
  deriving DecidableEq

/-- Captured variables. -/
def Ptrs : Nat → Type
  | 0 => Unit
  | n + 1 => Ptr × Ptrs n
def Ptrs.list : (n : Nat) → Ptrs n → List Ptr
  | 0, _ => []
  | n + 1, x => x.1 :: Ptrs.list n x.2
def Ptrs.of : (n : Nat) → List Ptr → Option (Ptrs n)
  | 0, [] => some ()
  | n + 1, p :: r => (Ptrs.of n r).bind fun y => some (p, y)
  | _, _ => none

def CT.T : CT → Type
  | .int _ => Int
  | .bool => Bool
  | .str => Bytes
  | .ptr => Ptr
  | .sl _ => Sl
  | .mp => Option Nat
  | .fn _ => Unit
  | .clo _ n => Ptrs n

def CT.mk : (t : CT) → t.T → C
  | .int k, n => .int k n
  | .bool, b => .bool b
  | .str, s => .str s
  | .ptr, p => .ptr p
  | .sl es, s => .sl es s
  | .mp, r => .mp r
  | .fn g, _ => .fn g
  | .clo g n, x => .clo g (Ptrs.list n x)

def CT.un : (t : CT) → C → Option t.T
  | .int k, .int k' n => bif decide (k = k') then some n else none
  | .bool, .bool b => some b
  | .str, .str s => some s
  | .ptr, .ptr p => some p
  | .sl es, .sl es' s => bif decide (es = es') then some s else none
  | .mp, .mp r => some r
  | .fn g, .fn g' => bif decide (g = g') then some () else none
  | .clo g n, .clo g' ps => bif decide (g = g') then Ptrs.of n ps else none
  | _, _ => none

/-- Several cells. -/
def Tup : List CT → Type
  | [] => Unit
  | t :: r => t.T × Tup r

def Tup.mk : (ts : List CT) → Tup ts → List C
  | [], _ => []
  | t :: r, x => t.mk x.1 :: Tup.mk r x.2

def Tup.un : (ts : List CT) → List C → Option (Tup ts)
  | [], [] => some ()
  | t :: r, c :: cs => (t.un c).bind fun x => (Tup.un r cs).bind fun y => some (x, y)
  | _, _ => none

/-- == on numbers, bools, texts. -/
def eqI (a b : Int) : Bool := decide (a = b)
def eqS (a b : Bytes) : Bool := decide (a = b)
def eqB (a b : Bool) : Bool := a == b
def CT.beq : (t : CT) → t.T → t.T → Bool
  | .int _, a, b => eqI a b
  | .bool, a, b => eqB a b
  | .str, a, b => eqS a b
  | _, _, _ => false
def Tup.beq : (ts : List CT) → Tup ts → Tup ts → Bool
  | [], _, _ => true
  | t :: r, a, b => t.beq a.1 b.1 && Tup.beq r a.2 b.2

/-- Types of values: one cell, or a struct (an array) by value. -/
inductive Ty where
  | one (c : CT)
  | agg (cs : List CT)
  deriving DecidableEq

inductive W where
  | one (c : C)
  | agg (cs : List C)
  deriving DecidableEq

def Ty.T : Ty → Type
  | .one c => c.T
  | .agg cs => Tup cs

def Ty.mk : (t : Ty) → t.T → W
  | .one c, x => .one (c.mk x)
  | .agg cs, x => .agg (Tup.mk cs x)

def Ty.un : (t : Ty) → W → Option t.T
  | .one c, .one x => c.un x
  | .agg cs, .agg xs => Tup.un cs xs
  | _, _ => none

def TL : List Ty → Type
  | [] => Unit
  | t :: r => t.T × TL r

def TL.mk : (ts : List Ty) → TL ts → List W
  | [], _ => []
  | t :: r, x => t.mk x.1 :: TL.mk r x.2

/-- What a slot holds. 'und': nothing is known; 'off': what an operation leaves that was not carried out. -/
inductive V where
  | und
  | off
  | w (x : W)
  | tup (xs : List W)
  deriving DecidableEq

def TL.un : (ts : List Ty) → List V → Option (TL ts)
  | [], [] => some ()
  | t :: r, .w c :: cs => (t.un c).bind fun x => (TL.un r cs).bind fun y => some (x, y)
  | _, _ => none

/-- Blocks: read only (they came in); of a known size; of which the end is not known (append made them). -/
inductive BK where
  | ro
  | exact
  | loose
  deriving DecidableEq

/-- A map's entries, by their keys, rising: key, value. -/
abbrev MEs := List (Int × W)

inductive Blk where
  | cells (cs : List C) (bk : BK)
  | dead
  | mp (es : MEs) (dc : Nat)
  deriving DecidableEq

abbrev Heap := List Blk

def Heap.cell (H : Heap) (b o : Nat) : Option C :=
  match H[b]? with
  | some (.cells cs _) => cs[o]?
  | _ => none

def cut (cs : List C) (o n : Nat) : Option (List C) := bif decide (o + n ≤ cs.length) then some ((cs.drop o).take n) else none

/-- n cells from o on. -/
def Heap.row (H : Heap) (b o n : Nat) : Option (List C) :=
  match H[b]? with
  | some (.cells cs _) => cut cs o n
  | _ => none

def rd (H : Heap) : (t : Ty) → (b o : Nat) → Option t.T
  | .one c, b, o => (H.cell b o).bind c.un
  | .agg cs, b, o => (H.row b o cs.length).bind (Tup.un cs)

def rdI (k : IntKind) (H : Heap) (b o : Nat) : Option Int := rd H (.one (.int k)) b o
def rdB (H : Heap) (b o : Nat) : Option Bool := rd H (.one .bool) b o
def rdS (H : Heap) (b o : Nat) : Option Bytes := rd H (.one .str) b o
def rdP (H : Heap) (b o : Nat) : Option Ptr := rd H (.one .ptr) b o
def rdSl (es : Nat) (H : Heap) (b o : Nat) : Option Sl := rd H (.one (.sl es)) b o
def rdM (H : Heap) (b o : Nat) : Option (Option Nat) := rd H (.one .mp) b o

def setL : List C → Nat → List C → List C
  | cs, _, [] => cs
  | cs, o, c :: r => setL (cs.set o c) (o + 1) r

def wr (H : Heap) (b o : Nat) (new : List C) : Option Heap :=
  match H[b]? with
  | some (.cells cs bk) => bif decide (bk ≠ .ro) && decide (o + new.length ≤ cs.length) then some (H.set b (.cells (setL cs o new) bk)) else none
  | _ => none

/-! Maps. -/
def mfind : MEs → Int → Option W
  | [], _ => none
  | x :: r, k => bif decide (x.1 = k) then some x.2 else mfind r k
/-- A key's value: another one, or a key more. -/
def mins : MEs → Int → W → MEs
  | [], k, v => [(k, v)]
  | x :: r, k, v => bif decide (k < x.1) then (k, v) :: x :: r else bif decide (x.1 = k) then (k, v) :: r else x :: mins r k v
def mdrop : MEs → Int → MEs
  | [], _ => []
  | x :: r, k => bif decide (x.1 = k) then r else x :: mdrop r k

/-- A map: its entries, and how often something was deleted. -/
def Heap.mpAt (H : Heap) (b : Nat) : Option (MEs × Nat) :=
  match H[b]? with
  | some (.mp es dc) => some (es, dc)
  | _ => none

def mgetW (H : Heap) (m : Option Nat) (k : Int) : Option (Option W) :=
  match m with
  | none => some none
  | some b => (H.mpAt b).bind fun p => some (mfind p.1 k)
def mget (H : Heap) (ty : Ty) (zero : W) (m : Option Nat) (k : Int) : Option (ty.T × Bool) :=
  (mgetW H m k).bind fun o => (ty.un (o.getD zero)).bind fun v => some (v, o.isSome)
def mset (H : Heap) (m : Option Nat) (k : Int) (x : W) : Option Heap :=
  m.bind fun b => (H.mpAt b).bind fun p => some (H.set b (.mp (mins p.1 k x) p.2))
def mdel (H : Heap) (m : Option Nat) (k : Int) : Option Heap :=
  match m with
  | none => some H
  | some b => (H.mpAt b).bind fun p => some (H.set b (.mp (mdrop p.1 k) (p.2 + 1)))
def mlen (H : Heap) (m : Option Nat) : Option Int :=
  match m with
  | none => some 0
  | some b => (H.mpAt b).bind fun p => some (p.1.length : Int)
/-- All keys, rising. -/
def mkeys (H : Heap) (m : Option Nat) : Option (List Int) :=
  match m with
  | none => some []
  | some b => (H.mpAt b).bind fun p => some (p.1.map Prod.fst)
/-- What stands at a key that is there. -/
def mat (H : Heap) (ty : Ty) (m : Option Nat) (k : Int) : Option ty.T :=
  (mgetW H m k).bind fun o => o.bind ty.un

/-- How many entries a map has, and how often something was deleted. -/
def mhead (H : Heap) (m : Option Nat) : Option (Nat × Nat) :=
  match m with
  | none => some (0, 0)
  | some b => (H.mpAt b).bind fun p => some (p.1.length, p.2)

/-! The same with other numbers of blocks. -/
def renP (π : Nat → Nat) (p : Ptr) : Ptr := p.map fun a => (π a.1, a.2)
def C.ren (π : Nat → Nat) : C → C
  | .ptr p => .ptr (renP π p)
  | .sl es s => .sl es ⟨renP π s.p, s.len, s.cap⟩
  | .mp r => .mp (r.map π)
  | .clo g ps => .clo g (ps.map (renP π))
  | c => c
def W.ren (π : Nat → Nat) : W → W
  | .one c => .one (c.ren π)
  | .agg cs => .agg (cs.map (C.ren π))
def Blk.ren (π : Nat → Nat) : Blk → Blk
  | .cells cs bk => .cells (cs.map (C.ren π)) bk
  | .dead => .dead
  | .mp es dc => .mp (es.map fun x => (x.1, x.2.ren π)) dc
/-- Alike, but for the numbers of the blocks that were not there at first. -/
def Alike (H0 H1 H2 : Heap) : Prop :=
  ∃ π π' : Nat → Nat, (∀ b, π' (π b) = b) ∧ (∀ b, π (π' b) = b) ∧ (∀ b, b < H0.length → π b = b) ∧ H1.length = H2.length ∧
    ∀ b, H2[π b]? = (H1[b]?).map (Blk.ren π) ∨ (b < H0.length ∧ H1[b]? = H0[b]? ∧ H2[b]? = H0[b]?)

/-- A round for each key of a list; the map that is ranged over keeps its keys. -/
def runK {S : Type} (step : Int → S → Heap → Option (S × Heap)) (m : Option Nat) (hd : Nat × Nat) : List Int → S → Heap → Option (S × Heap)
  | [], s, H => some (s, H)
  | k :: r, s, H => (step k s H).bind fun p => if mhead p.2 m = some hd then runK step m hd r p.1 p.2 else none
open Classical in
/-- A round for each key; whatever their order, the same comes of it. -/
noncomputable def eachW {S : Type} (step : Int → S → Heap → Option (S × Heap)) (m : Option Nat) (s : S) (H : Heap) : Option (S × Heap) :=
  (mkeys H m).bind fun ks => (mhead H m).bind fun hd =>
    if ∃ q, runK step m hd ks s H = some q ∧ ∀ l : List Int, l.Perm ks → ∃ q', runK step m hd l s H = some q' ∧ q'.1 = q.1 ∧ Alike H q'.2 q.2 then runK step m hd ks s H else none

/-! Slots. -/
abbrev Env := List (Nat × V)
def Env.get : Env → Nat → V
  | [], _ => .und
  | (s, v) :: r, t => bif Nat.beq s t then v else Env.get r t

inductive Opd where
  | t (n : Nat)
  | c (w : W)
  deriving DecidableEq

def Opd.ev (e : Env) : Opd → V
  | .t n => e.get n
  | .c w => .w w

inductive AOp where
  | mv (x : Opd)
  | pick (c a b : Opd)
  | new (zero : List C)
  | box (x : Opd)
  | build (zero : List C) (parts : List (Nat × Nat × Opd))
  | bslice (es len : Nat) (zero : List C) (parts : List (Nat × Nat × Opd))
  | load (ty : Ty) (x : Opd)
  | store (n : Nat) (a x : Opd)
  | nilc (x : Opd)
  | bin (op : BinOp) (x y : Opd)
  | eqb (neg : Bool) (x y : Opd)
  | isnil (neg : Bool) (x : Opd)
  | isnils (neg : Bool) (x : Opd)
  | eqagg (neg : Bool) (ts : List CT) (x y : Opd)
  | un (op : UnOp) (x : Opd)
  | conv (k : IntKind) (x : Opd)
  | cstr (x : Opd)
  | b2s (x : Opd)
  | s2b (x : Opd)
  | mk (es bytes : Nat) (zero : List C) (l c : Opd)
  | slc (es : Nat) (x : Opd) (lo hi mx : Option Opd)
  | slstr (x : Opd) (lo hi : Option Opd)
  | addr (off : Nat) (x : Opd)
  | field (ty : Ty) (off : Nat) (x : Opd)
  | idxa (es : Nat) (x i : Opd)
  | idxarr (es n : Nat) (x i : Opd)
  | index (x i : Opd)
  | ext (x : Opd) (i : Nat)
  | call (f : Nat) (args : List Opd)
  | callv (g : Nat) (x : Opd) (f : Nat) (args : List Opd)
  | callc (g n : Nat) (x : Opd) (f : Nat) (args : List Opd)
  | len (x : Opd)
  | lens (x : Opd)
  | app (es bytes : Nat) (s x : Opd)
  | cpy (es : Nat) (d s : Opd)
  | clr (zero : List C) (x : Opd)
  | min (xs : List Opd)
  | max (xs : List Opd)
  | mkm
  | mget (ty : Ty) (zero : W) (ok : Bool) (m i : Opd)
  | mset (m i x : Opd)
  | any
  | mkf (g : Nat) (xs : List Opd)
  | mdel (m i : Opd)
  | mlen (m : Opd)
  | isnilm (neg : Bool) (x : Opd)
  deriving DecidableEq

structure AOper where
  idx : Nat
  dst : Option Nat
  op : AOp
  guard : Option (Nat × Bool)
  deriving DecidableEq

/-- One step of a region: an operation; or a look whether an operation would still tell what it told. -/
inductive Item where
  | op (o : AOper)
  | again (o : AOper)
  | still (o : AOper)
  deriving DecidableEq

inductive Ex where
  | normal
  | ret
  | exit (id : Nat)
  deriving DecidableEq

abbrev Outs := List (Nat × Ty)

inductive A where
  | skip
  | ret
  | exit (id : Nat)
  | seq (a b : A)
  | cond (c : Opd) (a b : A)
  | block (id : Nat) (a : A)
  | reg (its : List Item)
  | scope (xs : List (Ex × Outs)) (a : A)
  | loop (st : Outs) (xs : List (Ex × Outs)) (a : A)
  | each (its : List Item) (m : Opd) (it nx ok ent : Nat) (ty : Ty) (st : Outs) (b : List Item) (a : A)
  deriving DecidableEq

/-- What a call goes to. -/
inductive Callee where
  | full (ps rs : List Ty) (f : TL ps → Heap → Option (TL rs × Heap))
  | quiet (ps rs : List Ty) (f : TL ps → Heap → Option (TL rs))
  | pure (ps rs : List Ty) (f : TL ps → Option (TL rs))

def resV : (rs : List Ty) → TL rs → V
  | [], _ => .tup []
  | [t], x => .w (t.mk x.1)
  | t :: u :: r, x => .tup (TL.mk (t :: u :: r) x)

/-! Numbers. -/
def bitsI (op : BinOp) (k : IntKind) (x y : Int) : Int :=
  match op with
  | .and => k.wrap (BitVec.ofInt k.bits x &&& BitVec.ofInt k.bits y).toNat
  | .or => k.wrap (BitVec.ofInt k.bits x ||| BitVec.ofInt k.bits y).toNat
  | .xor => k.wrap (BitVec.ofInt k.bits x ^^^ BitVec.ofInt k.bits y).toNat
  | .andNot => k.wrap (BitVec.ofInt k.bits x &&& ~~~ BitVec.ofInt k.bits y).toNat
  | _ => 0

def maxStr : Nat := 2 ^ 62
def maxRow : Nat := 2 ^ 45

/-- Bytes as cells, and back. -/
def cellsOf (s : Bytes) : List C := s.map fun b => .int .u8 (b.toNat : Int)
def bytesOf : List C → Option Bytes
  | [] => some []
  | .int .u8 n :: r => (bytesOf r).bind fun s => some (UInt8.ofNat n.toNat :: s)
  | _ => none

def rep (n : Nat) (zero : List C) : List C := (List.replicate n zero).flatten

def slRow (H : Heap) (es : Nat) (s : Sl) : Option (List C) :=
  match s.p with
  | none => some []
  | some a => H.row a.1 a.2 (s.len * es)

/-- Does a block go when its slice grows: its end is not known, and the slice reaches it? none: it may not grow. -/
def growKill (H : Heap) (es : Nat) (s : Sl) : Option Heap :=
  match s.p with
  | none => some H
  | some a =>
    match H[a.1]? with
    | some (.cells cs .loose) => bif decide (a.2 + s.cap * es = cs.length) then some (H.set a.1 .dead) else some H
    | some (.cells cs .ro) => bif decide (a.2 + s.cap * es = cs.length) then none else some H
    | some (.cells _ .exact) => some H
    | _ => none

def appS (H : Heap) (es bytes : Nat) (s : Sl) (n : Nat) (new : List C) : Option (Sl × Heap) :=
  bif decide (s.len + n ≤ s.cap) then
    match s.p with
    | none => some (⟨none, s.len + n, s.cap⟩, H)
    | some a => bif decide (n = 0) then some (s, H)
      else (wr H a.1 (a.2 + s.len * es) new).bind fun H' => some (⟨s.p, s.len + n, s.cap⟩, H')
  else bif decide ((s.len + n) * bytes ≤ maxRow ∧ s.len + n ≤ maxRow) then
    (slRow H es s).bind fun old => (growKill H es s).bind fun H1 =>
      some (⟨some (H.length, 0), s.len + n, s.len + n⟩, H1 ++ [.cells (old ++ new) .loose])
  else none

def cpyS (H : Heap) (_es : Nat) (d : Sl) (n : Nat) (new : List C) : Option (Int × Heap) :=
  bif decide (n = 0) then some (0, H) else
  match d.p with
  | none => none
  | some a => (wr H a.1 a.2 new).bind fun H' => some ((n : Int), H')

def clrS (H : Heap) (zero : List C) (s : Sl) : Option Heap :=
  bif decide (s.len = 0) then some H else
  match s.p with
  | none => none
  | some a => wr H a.1 a.2 (rep s.len zero)

def mkS (H : Heap) (bytes : Nat) (zero : List C) (l c : Int) : Option (Sl × Heap) :=
  bif decide (0 ≤ l ∧ l ≤ c ∧ c.toNat * bytes ≤ maxRow ∧ c.toNat ≤ maxRow) then
    some (⟨some (H.length, 0), l.toNat, c.toNat⟩, H ++ [.cells (rep c.toNat zero) .exact])
  else none

def catS (a b : Bytes) : Option Bytes := bif decide (a.length + b.length ≤ maxStr) then some (a ++ b) else none
def subS (s : Bytes) (lo hi : Int) : Option Bytes :=
  bif decide (0 ≤ lo ∧ lo ≤ hi ∧ hi ≤ (s.length : Int)) then some ((s.take hi.toNat).drop lo.toNat) else none
def idxS (s : Bytes) (i : Int) : Option Int :=
  bif decide (0 ≤ i) then (s[i.toNat]?).bind fun b => some (b.toNat : Int) else none
def Sl.sub (es : Nat) (s : Sl) (lo hi m : Int) : Option Sl :=
  bif decide (0 ≤ lo ∧ lo ≤ hi ∧ hi ≤ m ∧ m ≤ (s.cap : Int)) then
    some ⟨s.p.map fun a => (a.1, a.2 + lo.toNat * es), hi.toNat - lo.toNat, m.toNat - lo.toNat⟩
  else none
def Sl.at (es : Nat) (s : Sl) (i : Int) : Option (Nat × Nat) :=
  bif decide (0 ≤ i ∧ i < (s.len : Int)) then s.p.bind fun a => some (a.1, a.2 + i.toNat * es) else none
def arrAt (es n : Nat) (a : Nat × Nat) (i : Int) : Option (Nat × Nat) :=
  bif decide (0 ≤ i ∧ i < (n : Int)) then some (a.1, a.2 + i.toNat * es) else none
def strOf (H : Heap) (s : Sl) : Option Bytes := (slRow H 1 s).bind bytesOf

section
variable {R : Type}

def intB (n : Bool) (k : V → Heap → Option R) (H : Heap) : Option R := k (.w (.one (.bool n))) H

def binI (op : BinOp) (kd : IntKind) (a b : Int) (H : Heap) (k : V → Heap → Option R) : Option R :=
  match op with
  | .add => k (.w (.one (.int kd (kd.wrap (a + b))))) H
  | .sub => k (.w (.one (.int kd (kd.wrap (a - b))))) H
  | .mul => k (.w (.one (.int kd (kd.wrap (a * b))))) H
  | .quo => bif decide (b = 0) then none else k (.w (.one (.int kd (kd.wrap (a.tdiv b))))) H
  | .rem => bif decide (b = 0) then none else k (.w (.one (.int kd (a.tmod b)))) H
  | .and => k (.w (.one (.int kd (bitsI .and kd a b)))) H
  | .or => k (.w (.one (.int kd (bitsI .or kd a b)))) H
  | .xor => k (.w (.one (.int kd (bitsI .xor kd a b)))) H
  | .andNot => k (.w (.one (.int kd (bitsI .andNot kd a b)))) H
  | .eql => k (.w (.one (.bool (decide (a = b))))) H
  | .neq => k (.w (.one (.bool (!decide (a = b))))) H
  | .lss => k (.w (.one (.bool (decide (a < b))))) H
  | .leq => k (.w (.one (.bool (decide (a ≤ b))))) H
  | .gtr => k (.w (.one (.bool (decide (b < a))))) H
  | .geq => k (.w (.one (.bool (decide (b ≤ a))))) H
  | _ => none

def binS (op : BinOp) (a b : Bytes) (H : Heap) (k : V → Heap → Option R) : Option R :=
  match op with
  | .add => (catS a b).bind fun s => k (.w (.one (.str s))) H
  | .eql => k (.w (.one (.bool (decide (a = b))))) H
  | .neq => k (.w (.one (.bool (!decide (a = b))))) H
  | _ => none

def shiftI (op : BinOp) (kd : IntKind) (a : Int) (b : Int) (H : Heap) (k : V → Heap → Option R) : Option R :=
  bif decide (b < 0) then none else
  match op with
  | .shl => k (.w (.one (.int kd (kd.wrap (a * 2 ^ (min b.toNat kd.bits)))))) H
  | .shr => k (.w (.one (.int kd (a.fdiv (2 ^ (min b.toNat kd.bits)))))) H
  | _ => none

def binV (op : BinOp) (x y : V) (H : Heap) (k : V → Heap → Option R) : Option R :=
  match x, y with
  | .w (.one (.int kd a)), .w (.one (.int kd' b)) =>
    bif decide (op = .shl) || decide (op = .shr) then shiftI op kd a b H k
    else bif decide (kd = kd') then binI op kd a b H k else none
  | .w (.one (.str a)), .w (.one (.str b)) => binS op a b H k
  | _, _ => none

def unV (op : UnOp) (x : V) (H : Heap) (k : V → Heap → Option R) : Option R :=
  match op, x with
  | .neg, .w (.one (.int kd n)) => k (.w (.one (.int kd (kd.wrap (0 - n))))) H
  | .xor, .w (.one (.int kd n)) => k (.w (.one (.int kd (bitsI .xor kd (if kd.signed then -1 else kd.max) n)))) H
  | .not, .w (.one (.bool b)) => k (.w (.one (.bool (!b)))) H
  | _, _ => none

def V.int? (v : V) (k : Int → Option R) : Option R :=
  match v with
  | .w (.one (.int _ n)) => k n
  | _ => none

def optI (e : Env) (o : Option Opd) (d : Int) (k : Int → Option R) : Option R :=
  match o with
  | none => k d
  | some x => (x.ev e).int? k

def fillParts (e : Env) : List C → List (Nat × Nat × Opd) → Option (List C)
  | cs, [] => some cs
  | cs, (o, n, x) :: r =>
    match x.ev e with
    | .w (.one c) => bif decide (n = 1) && decide (o + 1 ≤ cs.length) then fillParts e (setL cs o [c]) r else none
    | .w (.agg xs) => bif decide (n = xs.length) && decide (o + n ≤ cs.length) then fillParts e (setL cs o xs) r else none
    | _ => none

def negB (neg : Bool) (b : Bool) : Bool := bif neg then !b else b

def minI : Int → List V → (Int → Option R) → Option R
  | a, [], k => k a
  | a, .w (.one (.int _ b)) :: r, k => minI (if b < a then b else a) r k
  | _, _, _ => none

def maxI : Int → List V → (Int → Option R) → Option R
  | a, [], k => k a
  | a, .w (.one (.int _ b)) :: r, k => maxI (if b > a then b else a) r k
  | _, _, _ => none

/-- Pointers alone. -/
def ptrsOf : List V → Option (List Ptr)
  | [] => some []
  | .w (.one (.ptr p)) :: r => (ptrsOf r).bind fun s => some (p :: s)
  | _ => none
/-- A call. -/
def evCall (calls : Nat → Option Callee) (f : Nat) (vs : List V) (H : Heap) (k : V → Heap → Option R) : Option R :=
  match calls f with
  | some (.full ps rs g) => (TL.un ps vs).bind fun t => (g t H).bind fun p => k (resV rs p.1) p.2
  | some (.quiet ps rs g) => (TL.un ps vs).bind fun t => (g t H).bind fun r => k (resV rs r) H
  | some (.pure ps rs g) => (TL.un ps vs).bind fun t => (g t).bind fun r => k (resV rs r) H
  | none => none
/-- One operation; what follows is k. -/
def evOp (calls : Nat → Option Callee) (op : AOp) (e : Env) (H : Heap) (k : V → Heap → Option R) : Option R :=
  match op with
  | .mv x => k (x.ev e) H
  | .pick c a b =>
    match c.ev e with
    | .w (.one (.bool t)) => bif t then k (a.ev e) H else k (b.ev e) H
    | _ => none
  | .new zero => k (.w (.one (.ptr (some (H.length, 0))))) (H ++ [.cells zero .exact])
  | .box x =>
    match x.ev e with
    | .w (.one c) => k (.w (.one (.ptr (some (H.length, 0))))) (H ++ [.cells [c] .exact])
    | .w (.agg cs) => k (.w (.one (.ptr (some (H.length, 0))))) (H ++ [.cells cs .exact])
    | _ => none
  | .build zero parts => (fillParts e zero parts).bind fun cs => k (.w (.agg cs)) H
  | .bslice es len zero parts => (fillParts e zero parts).bind fun cs =>
      k (.w (.one (.sl es ⟨some (H.length, 0), len, len⟩))) (H ++ [.cells cs .exact])
  | .load ty x =>
    match x.ev e with
    | .w (.one (.ptr p)) => p.bind fun a => (rd H ty a.1 a.2).bind fun v => k (.w (ty.mk v)) H
    | _ => none
  | .store n a x =>
    match a.ev e, x.ev e with
    | .w (.one (.ptr p)), .w (.one c) => bif decide (n = 1) then p.bind fun a => (wr H a.1 a.2 [c]).bind fun H' => k .und H' else none
    | .w (.one (.ptr p)), .w (.agg cs) => bif decide (n = cs.length) then p.bind fun a => (wr H a.1 a.2 cs).bind fun H' => k .und H' else none
    | _, _ => none
  | .nilc x =>
    match x.ev e with
    | .w (.one (.ptr p)) => p.bind fun a => k (.w (.one (.ptr (some a)))) H
    | _ => none
  | .bin op x y => binV op (x.ev e) (y.ev e) H k
  | .eqb neg x y =>
    match x.ev e, y.ev e with
    | .w (.one (.bool a)), .w (.one (.bool b)) => k (.w (.one (.bool (negB neg (a == b))))) H
    | _, _ => none
  | .isnil neg x =>
    match x.ev e with
    | .w (.one (.ptr p)) => k (.w (.one (.bool (negB neg p.isNone)))) H
    | _ => none
  | .isnils neg x =>
    match x.ev e with
    | .w (.one (.sl _ s)) => k (.w (.one (.bool (negB neg s.p.isNone)))) H
    | _ => none
  | .eqagg neg ts x y =>
    match x.ev e, y.ev e with
    | .w (.agg xs), .w (.agg ys) =>
      (Tup.un ts xs).bind fun a => (Tup.un ts ys).bind fun b => k (.w (.one (.bool (negB neg (Tup.beq ts a b))))) H
    | _, _ => none
  | .un op x => unV op (x.ev e) H k
  | .conv kd x =>
    match x.ev e with
    | .w (.one (.int _ n)) => k (.w (.one (.int kd (kd.wrap n)))) H
    | _ => none
  | .cstr x =>
    match x.ev e with
    | .w (.one (.str s)) => k (.w (.one (.str s))) H
    | _ => none
  | .b2s x =>
    match x.ev e with
    | .w (.one (.sl es s)) => bif decide (es = 1) then (strOf H s).bind fun t => k (.w (.one (.str t))) H else none
    | _ => none
  | .s2b x =>
    match x.ev e with
    | .w (.one (.str s)) => k (.w (.one (.sl 1 ⟨some (H.length, 0), s.length, s.length⟩))) (H ++ [.cells (cellsOf s) .loose])
    | _ => none
  | .mk es bytes zero l c =>
    (l.ev e).int? fun l => (c.ev e).int? fun c =>
      (mkS H bytes zero l c).bind fun p => k (.w (.one (.sl es p.1))) p.2
  | .slstr x lo hi =>
    match x.ev e with
    | .w (.one (.str s)) => optI e hi (s.length : Int) fun h => optI e lo 0 fun l => (subS s l h).bind fun t => k (.w (.one (.str t))) H
    | _ => none
  | .slc es x lo hi mx =>
    match x.ev e with
    | .w (.one (.sl es' s)) =>
      bif decide (es' = es) then
      optI e mx (s.cap : Int) fun m => optI e hi (s.len : Int) fun h => optI e lo 0 fun l =>
        (Sl.sub es s l h m).bind fun t => k (.w (.one (.sl es t))) H
      else none
    | _ => none
  | .addr off x =>
    match x.ev e with
    | .w (.one (.ptr p)) => p.bind fun a => k (.w (.one (.ptr (some (a.1, a.2 + off))))) H
    | _ => none
  | .field ty off x =>
    match x.ev e with
    | .w (.agg cs) =>
      match ty with
      | .one c => (cs[off]?).bind fun v => (c.un v).bind fun v => k (.w (.one (c.mk v))) H
      | .agg ts => (cut cs off ts.length).bind fun vs => (Tup.un ts vs).bind fun v => k (.w (.agg (Tup.mk ts v))) H
    | _ => none
  | .idxa es x i =>
    match x.ev e with
    | .w (.one (.sl es' s)) => bif decide (es' = es) then (i.ev e).int? fun i => (Sl.at es s i).bind fun a => k (.w (.one (.ptr (some a)))) H else none
    | _ => none
  | .idxarr es n x i =>
    match x.ev e with
    | .w (.one (.ptr p)) => p.bind fun a => (i.ev e).int? fun i => (arrAt es n a i).bind fun a => k (.w (.one (.ptr (some a)))) H
    | _ => none
  | .index x i =>
    match x.ev e with
    | .w (.one (.str s)) => (i.ev e).int? fun i => (idxS s i).bind fun n => k (.w (.one (.int .u8 n))) H
    | _ => none
  | .ext x i =>
    match x.ev e with
    | .tup ws => (ws[i]?).bind fun w => k (.w w) H
    | _ => none
  | .call f args =>
    match calls f with
    | some (.full ps rs g) => (TL.un ps (args.map (Opd.ev e))).bind fun t => (g t H).bind fun p => k (resV rs p.1) p.2
    | some (.quiet ps rs g) => (TL.un ps (args.map (Opd.ev e))).bind fun t => (g t H).bind fun r => k (resV rs r) H
    | some (.pure ps rs g) => (TL.un ps (args.map (Opd.ev e))).bind fun t => (g t).bind fun r => k (resV rs r) H
    | none => none
  | .callv g x f args =>
    match x.ev e with
    | .w (.one (.fn g')) => bif decide (g' = g) then evCall calls f (args.map (Opd.ev e)) H k else none
    | _ => none
  | .callc g n x f args =>
    match x.ev e with
    | .w (.one c) => (CT.un (.clo g n) c).bind fun t => evCall calls f (args.map (Opd.ev e) ++ (Ptrs.list n t).map fun p => .w (.one (.ptr p))) H k
    | _ => none
  | .any => k .und H
  | .mkf g xs => (ptrsOf (xs.map (Opd.ev e))).bind fun ps => k (.w (.one (.clo g ps))) H
  | .len x =>
    match x.ev e with
    | .w (.one (.sl _ s)) => k (.w (.one (.int .i64 (s.len : Int)))) H
    | _ => none
  | .lens x =>
    match x.ev e with
    | .w (.one (.str s)) => k (.w (.one (.int .i64 (s.length : Int)))) H
    | _ => none
  | .app es bytes s x =>
    match s.ev e, x.ev e with
    | .w (.one (.sl es' s)), .w (.one (.sl es'' x)) =>
      bif decide (es' = es) && decide (es'' = es) then
        (slRow H es x).bind fun new => (appS H es bytes s x.len new).bind fun p => k (.w (.one (.sl es p.1))) p.2 else none
    | .w (.one (.sl es' s)), .w (.one (.str x)) =>
      bif decide (es' = es) && decide (es = 1) then (appS H es bytes s x.length (cellsOf x)).bind fun p => k (.w (.one (.sl es p.1))) p.2 else none
    | _, _ => none
  | .cpy es d s =>
    match d.ev e, s.ev e with
    | .w (.one (.sl es'' d)), .w (.one (.sl es' s)) =>
      bif decide (es' = es) && decide (es'' = es) then
        (slRow H es ⟨s.p, min s.len d.len, s.cap⟩).bind fun new => (cpyS H es d (min s.len d.len) new).bind fun p => k (.w (.one (.int .i64 p.1))) p.2
      else none
    | .w (.one (.sl es'' d)), .w (.one (.str s)) =>
      bif decide (es = 1) && decide (es'' = es) then (cpyS H es d (min s.length d.len) (cellsOf (s.take (min s.length d.len)))).bind fun p => k (.w (.one (.int .i64 p.1))) p.2
      else none
    | _, _ => none
  | .clr zero x =>
    match x.ev e with
    | .w (.one (.sl es s)) => bif decide (es = zero.length) then (clrS H zero s).bind fun H' => k (.tup []) H' else none
    | _ => none
  | .min xs =>
    match xs.map (Opd.ev e) with
    | .w (.one (.int kd a)) :: r => minI a r fun n => k (.w (.one (.int kd n))) H
    | _ => none
  | .max xs =>
    match xs.map (Opd.ev e) with
    | .w (.one (.int kd a)) :: r => maxI a r fun n => k (.w (.one (.int kd n))) H
    | _ => none
  | .mkm => k (.w (.one (.mp (some H.length)))) (H ++ [.mp [] 0])
  | .mget ty zero ok m i =>
    match m.ev e, i.ev e with
    | .w (.one (.mp m)), .w (.one (.int .i64 n)) => (mget H ty zero m n).bind fun p => bif ok then k (.tup [ty.mk p.1, .one (.bool p.2)]) H else k (.w (ty.mk p.1)) H
    | _, _ => none
  | .mset m i x =>
    match m.ev e, i.ev e, x.ev e with
    | .w (.one (.mp m)), .w (.one (.int .i64 n)), .w x => (mset H m n x).bind fun H' => k .und H'
    | _, _, _ => none
  | .mdel m i =>
    match m.ev e, i.ev e with
    | .w (.one (.mp m)), .w (.one (.int .i64 n)) => (mdel H m n).bind fun H' => k (.tup []) H'
    | _, _ => none
  | .mlen m =>
    match m.ev e with
    | .w (.one (.mp m)) => (mlen H m).bind fun n => k (.w (.one (.int .i64 n))) H
    | _ => none
  | .isnilm neg x =>
    match x.ev e with
    | .w (.one (.mp m)) => k (.w (.one (.bool (negB neg m.isNone)))) H
    | _ => none

def put (e : Env) (dst : Option Nat) (v : V) : Env :=
  match dst with
  | none => e
  | some d => (d, v) :: e

/-- What a block that is made holds at first. -/
def initBlk (e : Env) (op : AOp) (k : Blk → Option R) : Option R :=
  match op with
  | .new zero => k (.cells zero .exact)
  | .box x =>
    match x.ev e with
    | .w (.one c) => k (.cells [c] .exact)
    | .w (.agg cs) => k (.cells cs .exact)
    | _ => none
  | .bslice _ _ zero parts => (fillParts e zero parts).bind fun cs => k (.cells cs .exact)
  | .mk _ _ zero _ c => (c.ev e).int? fun c => k (.cells (rep c.toNat zero) .exact)
  | .mkm => k (.mp [] 0)
  | _ => none

def getD (e : Env) : Option Nat → V
  | none => .und
  | some t => e.get t

/-- Is the guard known not to hold? -/
def offB (e : Env) : Option (Nat × Bool) → Bool
  | none => false
  | some (t, want) => match e.get t with
    | .w (.one (.bool g)) => g != want
    | .off => true
    | _ => false

/-- A region's operations in the order of the list. -/
def evIts (calls : Nat → Option Callee) : List Item → Env → Heap → (Env → Heap → Option R) → Option R
  | [], e, H, k => k e H
  | .op o :: r, e, H, k =>
    match o.guard with
    | none => evOp calls o.op e H fun v H' => evIts calls r (put e o.dst v) H' k
    | some (t, want) =>
      match e.get t with
      | .w (.one (.bool g)) =>
        bif g then
          (bif want then evOp calls o.op ((t, .w (.one (.bool true))) :: e) H fun v H' => evIts calls r (put ((t, .w (.one (.bool true))) :: e) o.dst v) H' k
           else evIts calls r (put ((t, .w (.one (.bool true))) :: e) o.dst .off) H k)
        else
          (bif want then evIts calls r (put ((t, .w (.one (.bool false))) :: e) o.dst .off) H k
           else evOp calls o.op ((t, .w (.one (.bool false))) :: e) H fun v H' => evIts calls r (put ((t, .w (.one (.bool false))) :: e) o.dst v) H' k)
      | .off => evIts calls r (put e o.dst .off) H k
      | _ => none
  | .again o :: r, e, H, k =>
    bif offB e o.guard then evIts calls r e H k else
    evOp calls o.op e H fun v _ => if v = getD e o.dst then evIts calls r e H k else none
  | .still o :: r, e, H, k =>
    bif offB e o.guard then evIts calls r e H k else
    initBlk e o.op fun x =>
    match getD e o.dst with
    | .w (.one (.ptr (some a))) => if H[a.1]? = some x then evIts calls r e H k else none
    | .w (.one (.sl _ s)) => s.p.bind fun a => if H[a.1]? = some x then evIts calls r e H k else none
    | .w (.one (.mp m)) => m.bind fun b => if H[b]? = some x then evIts calls r e H k else none
    | _ => none
end

/-! Typed joins. -/
def OT : Outs → Type
  | [] => Unit
  | (_, t) :: r => t.T × OT r

def OT.enc : (o : Outs) → Env → Option (OT o)
  | [], _ => some ()
  | (s, t) :: r, e =>
    match e.get s with
    | .w x => (t.un x).bind fun a => (OT.enc r e).bind fun b => some (a, b)
    | _ => none

def OT.dec : (o : Outs) → OT o → Env
  | [], _ => []
  | (s, t) :: r, x => (s, .w (t.mk x.1)) :: OT.dec r x.2

def XV : List (Ex × Outs) → Type
  | [] => Empty
  | [o] => OT o.2
  | o :: p :: r => OT o.2 ⊕ XV (p :: r)

def XV.enc : (xs : List (Ex × Outs)) → Ex → Env → Option (XV xs)
  | [], _, _ => none
  | [o], ex, e => bif decide (o.1 = ex) then OT.enc o.2 e else none
  | o :: p :: r, ex, e => bif decide (o.1 = ex) then (OT.enc o.2 e).bind fun x => some (.inl x) else (XV.enc (p :: r) ex e).bind fun x => some (.inr x)

def XV.dec {R : Type} : (xs : List (Ex × Outs)) → XV xs → (Ex → Env → Option R) → Option R
  | [], _, _ => none
  | [o], x, k => k o.1 (OT.dec o.2 x)
  | o :: p :: r, x, k => Sum.elim (fun y => k o.1 (OT.dec o.2 y)) (fun y => XV.dec (p :: r) y k) x

def iter {S X : Type} (step : S → Heap → Option ((S ⊕ X) × Heap)) : Nat → S → Heap → Option (X × Heap)
  | 0, _, _ => none
  | n + 1, s, H => (step s H).bind fun p => Sum.elim (fun s' => iter step n s' p.2) (fun x => some (x, p.2)) p.1

open Classical in
noncomputable def loopW {S X : Type} (step : S → Heap → Option ((S ⊕ X) × Heap)) (s : S) (H : Heap) : Option (X × Heap) :=
  if h : ∃ r n, iter step n s H = some r then some (Classical.choose h) else none

def Item.dsts : Item → List Nat
  | .op o => match o.dst with
    | some d => [d]
    | none => []
  | _ => []

def itsDsts : List Item → List Nat
  | [] => []
  | i :: r => i.dsts ++ itsDsts r

def A.dsts : A → List Nat
  | .seq a b => a.dsts ++ b.dsts
  | .cond _ a b => a.dsts ++ b.dsts
  | .block _ a => a.dsts
  | .reg its => itsDsts its
  | .scope _ a => a.dsts
  | .loop _ _ a => a.dsts
  | .each its _ it nx ok ent _ _ b a => itsDsts its ++ (it :: nx :: ok :: ent :: (itsDsts b ++ a.dsts))
  | _ => []

def memB (n : Nat) : List Nat → Bool
  | [] => false
  | m :: r => bif Nat.beq n m then true else memB n r

/-- The slots that are not among these. -/
def Env.without : Env → List Nat → Env
  | [], _ => []
  | (s, v) :: r, ds => bif memB s ds then Env.without r ds else (s, v) :: Env.without r ds

/-- strings.Repeat. -/
def strings_Repeat (s : Bytes) (n : Int) : Option (Bytes × Unit) :=
  bif decide (0 ≤ n ∧ n ≤ (maxRow : Int) ∧ n * (s.length : Int) ≤ (maxRow : Int)) then some ((List.replicate n.toNat s).flatten, ()) else none
def strings_Repeat.c : Callee := .pure [.one .str, .one (.int .i64)] [.one .str] (fun x => strings_Repeat x.1 x.2.1)
/-- weave.part: each w-th byte from place i on. -/
def partL (s : Bytes) (w : Nat) : Nat → Nat → Bytes
  | 0, _ => []
  | f + 1, i => if i < s.length then s.getD i 0 :: partL s w f (i + w) else []
def weave_part (s : Bytes) (sh : Int × Int × Int × Int × Unit) (n : Int) : Option (Bytes × Unit) :=
  bif decide (s.length ≤ 1099511627776 ∧ 1 ≤ sh.1 ∧ sh.1 ≤ 1099511627776 ∧ 0 ≤ n ∧ n ≤ 1099511627776) then some (partL s sh.1.toNat s.length n.toNat, ()) else none
def weave_part.c : Callee := .pure [.one .str, .agg [.int .i64, .int .i64, .int .i64, .int .i64], .one (.int .i64)] [.one .str] (fun x => weave_part x.1 x.2.1 x.2.2.1)
/-- maps.Clone. -/
def mclone (m : Option Nat) (H : Heap) : Option ((Option Nat × Unit) × Heap) :=
  match m with
  | none => some ((none, ()), H)
  | some b => (H.mpAt b).bind fun p => some ((some H.length, ()), H ++ [.mp p.1 0])
def mclone.c : Callee := .full [.one .mp] [.one .mp] (fun x H => mclone x.1 H)
/-- slices.Sorted of maps.Keys. -/
def keysSl (H : Heap) (ks : List Int) : Option ((Sl × Unit) × Heap) :=
  bif decide (ks.length ≤ 1099511627776) && (ks.all fun k => decide (-9223372036854775808 ≤ k ∧ k ≤ 9223372036854775807)) then
    bif decide (ks = []) then some ((⟨none, 0, 0⟩, ()), H)
    else some ((⟨some (H.length, 0), ks.length, ks.length⟩, ()), H ++ [.cells (ks.map (C.int .i64)) .loose])
  else none
def sortedKeys (x : Ptr × Unit) (H : Heap) : Option ((Sl × Unit) × Heap) :=
  x.1.bind fun a => bif decide (a.2 = 0) then
    match H[a.1]? with
    | some (.cells [.mp m] .exact) => (mkeys H m).bind fun ks => keysSl H ks
    | _ => none
  else none
def sortedKeys.c (g : Nat) : Callee := .full [.one (.clo g 1)] [.one (.sl 1)] (fun x H => sortedKeys x.1 H)
/-- slices.Sort of numbers. -/
def intsOf : List C → Option (List Int)
  | [] => some []
  | .int .i64 n :: r => (intsOf r).bind fun s => some (n :: s)
  | _ => none
noncomputable def slices_Sort_int_int (s : Sl) (H : Heap) : Option (Unit × Heap) :=
  bif decide (s.len = 0) then some ((), H) else s.p.bind fun a => (slRow H 1 s).bind fun cs => (intsOf cs).bind fun zs =>
    bif decide (zs.length < 4611686018427387904) then (wr H a.1 a.2 ((zs.mergeSort fun x y => decide (x ≤ y)).map (C.int .i64))).bind fun H' => some ((), H') else none
noncomputable def slices_Sort_int_int.c : Callee := .full [.one (.sl 1)] [] (fun x H => slices_Sort_int_int x.1 H)

/-- A round's end. -/
def encN (st : Outs) (ex : Ex) (e : Env) (H : Heap) : Option (OT st × Heap) :=
  match ex with
  | .normal => (OT.enc st e).bind fun s => some (s, H)
  | _ => none

noncomputable def evS (calls : Nat → Option Callee) : A → {R : Type} → Env → Heap → (Ex → Env → Heap → Option R) → Option R
  | .skip, _, e, H, k => k .normal e H
  | .ret, _, e, H, k => k .ret e H
  | .exit id, _, e, H, k => k (.exit id) e H
  | .seq a b, _, e, H, k => evS calls a e H fun ex e' H' =>
      match ex with
      | .normal => evS calls b e' H' k
      | ex => k ex e' H'
  | .cond c a b, _, e, H, k =>
    match c.ev e with
    | .w (.one (.bool t)) => bif t then evS calls a e H k else evS calls b e H k
    | _ => none
  | .block id a, _, e, H, k => evS calls a e H fun ex e' H' => bif decide (ex = .exit id) then k .normal e' H' else k ex e' H'
  | .reg its, _, e, H, k => evIts calls its e H fun e' H' => k .normal e' H'
  | .scope xs a, _, e, H, k =>
    (evS calls a e H fun ex e' H' => (XV.enc xs ex e').bind fun x => some (x, H')).bind fun p =>
      XV.dec xs p.1 fun ex e' => k ex (e' ++ e.without a.dsts) p.2
  | .loop st xs a, _, e, H, k =>
    (OT.enc st e).bind fun s0 =>
      (loopW (fun s H => evS calls a (OT.dec st s ++ e.without a.dsts) H fun ex e' H' =>
        match ex with
        | .normal => (OT.enc st e').bind fun s' => some (Sum.inl s', H')
        | ex => (XV.enc xs ex e').bind fun x => some (Sum.inr x, H')) s0 H).bind fun p =>
        XV.dec xs p.1 fun ex e' => k ex (e' ++ e.without a.dsts) p.2
  | .each its m it nx ok ent ty st b a, _, e, H, k => evIts calls its e H fun e1 H1 =>
    match m.ev e1 with
    | .w (.one (.mp mm)) => (OT.enc st e1).bind fun s0 =>
      (eachW (fun key s H => (mat H ty mm key).bind fun v =>
        evIts calls b ((ent, .tup [.one (.int .i64 key), ty.mk v]) :: (it, .w (.one (.ptr (some (H1.length, 0))))) :: (OT.dec st s ++ e1.without (it :: nx :: ok :: ent :: (itsDsts b ++ a.dsts)))) H fun e2 H2 =>
        evS calls a e2 H2 (encN st)) mm s0 (H1 ++ [.dead])).bind fun p =>
      k .normal (OT.dec st p.1 ++ e1.without (it :: nx :: ok :: ent :: (itsDsts b ++ a.dsts))) p.2
    | _ => none

/-- What a function tells: slots, or cells. -/
inductive ARes where
  | t (n : Nat)
  | cell (n : Nat)
  deriving DecidableEq

def ARes.get {R : Type} (e : Env) (H : Heap) (r : ARes) (ty : Ty) (k : ty.T → Option R) : Option R :=
  match r with
  | .t n => match e.get n with
    | .w x => (ty.un x).bind k
    | _ => none
  | .cell n => match e.get n with
    | .w (.one (.ptr p)) => p.bind fun a => (rd H ty a.1 a.2).bind k
    | _ => none

def resOf {R : Type} (e : Env) (H : Heap) : (l : List ARes) → (rs : List Ty) → (TL rs → Option R) → Option R
  | [], [], k => k ()
  | x :: l, ty :: r, k => x.get e H ty fun a => resOf e H l r fun b => k (a, b)
  | _, _, _ => none

structure AFun where
  ps : List Ty
  rs : List Ty
  res : List ARes
  body : A

def envOf : (ps : List Ty) → Nat → TL ps → Env
  | [], _, _ => []
  | t :: r, n, x => (n, .w (t.mk x.1)) :: envOf r (n + 1) x.2

noncomputable def evFull (calls : Nat → Option Callee) (f : AFun) (x : TL f.ps) (H : Heap) : Option (TL f.rs × Heap) :=
  evS calls f.body (envOf f.ps 0 x) H fun ex e H' =>
    match ex with
    | .exit _ => none
    | _ => resOf e H' f.res f.rs fun r => some (r, H')

noncomputable def evQuiet (calls : Nat → Option Callee) (f : AFun) (x : TL f.ps) (H : Heap) : Option (TL f.rs) :=
  evS calls f.body (envOf f.ps 0 x) H fun ex e H' =>
    match ex with
    | .exit _ => none
    | _ => resOf e H' f.res f.rs fun r => if H'.take H.length = H then some r else none

/-- Of a function of plain values: on whatever heap; the callee takes the empty one. -/
noncomputable def evPure (calls : Nat → Option Callee) (f : AFun) (x : TL f.ps) (H : Heap) : Option (TL f.rs) :=
  evS calls f.body (envOf f.ps 0 x) H fun ex e H' =>
    match ex with
    | .exit _ => none
    | _ => resOf e H' f.res f.rs fun r => some r

end Ev
