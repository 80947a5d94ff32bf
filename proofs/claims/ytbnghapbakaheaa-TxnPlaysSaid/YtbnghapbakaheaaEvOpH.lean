/- How the evaluator's heap stands to the machine's memory: blocks by a map, cells one by one. Is abstract code the code of the program? Checks that the kernel reckons. Each operation of the evaluator tells what the machine's own operation tells. Operators. Loads, stores, new blocks. Slices, texts, rows that grow. Bytes and texts, new rows, rows that grow. A row that grows where it lies: its block goes on under a new number. append, copy, clear; least and greatest. copy, clear, least and greatest, structs and rows by parts, fields, == of structs. structs and rows by parts, fields, == of structs. Maps: what the machine's own operations on them do. Operations on maps: each tells what the machine's own operation tells. == of structs; calls; then all operations in one theorem. -/
import Derived.Test.YtbnghapbakaheaaEvCore
import Derived.Tactics
import Derived.Tactics2
import Derived.WalkKit
import Derived.Orders
import Derived.WalkLawsBesides
import Derived.Laws.Small
import Derived.Laws.Cover3
import Derived.Laws.StructEq
import Derived.Lib.Strings
import Derived.Lib.ConvBytes
import Derived.Laws.BytesString
import Derived.Laws.IdiomStrings
import Derived.Laws.MakeOwn
import Derived.Laws.Tables
import Derived.MapKept
namespace Ev
open Go

structure Pl where
  k : Nat
  base : Nat
  n : Nat
  n2 : Nat
  loose : Bool

abbrev Rho := Nat → Option Pl

def Rho.le (ρ ρ' : Rho) : Prop := ∀ b pl, ρ b = some pl → ρ' b = some pl
theorem Rho.le_refl (ρ : Rho) : ρ.le ρ := fun _ _ h => h
theorem Rho.le_trans {a b c : Rho} (h : a.le b) (k : b.le c) : a.le c := fun x y z => k x y (h x y z)

def SlOK (pl : Pl) (es o len cap : Nat) (a : Addr) (cap' : Nat) : Prop :=
  a.spot = none ∧ a.block = pl.k ∧ len ≤ cap ∧ o + cap * es ≤ pl.n ∧
  ((a.off = pl.base + o ∧ cap ≤ cap' ∧ (cap = cap' ∨ (pl.loose = true ∧ o + cap * es = pl.n)) ∧ pl.base + o + cap' * es ≤ pl.n2) ∨ (cap = 0 ∧ cap' = 0))

/-- Captured variables. -/
def PsRel (ρ : Rho) : List Ptr → List Value → Prop
  | [], [] => True
  | none :: ps, v :: vs => v = .pointer none ∧ PsRel ρ ps vs
  | some a :: ps, v :: vs => (∃ pl, ρ a.1 = some pl ∧ v = .pointer (some ⟨pl.k, pl.base + a.2, none⟩)) ∧ PsRel ρ ps vs
  | _, _ => False

def CRel (ρ : Rho) : C → Value → Prop
  | .int k n, v => v = .int k n
  | .bool b, v => v = .bool b
  | .str s, v => ∃ x : ByteArray, v = .string x ∧ x.data.toList = s
  | .ptr none, v => v = .pointer none
  | .ptr (some a), v => ∃ pl, ρ a.1 = some pl ∧ v = .pointer (some ⟨pl.k, pl.base + a.2, none⟩)
  | .sl _ ⟨none, len, cap⟩, v => len = 0 ∧ cap = 0 ∧ v = .slice none 0 0
  | .sl es ⟨some a, len, cap⟩, v => ∃ pl x cap', ρ a.1 = some pl ∧ v = .slice (some x) len cap' ∧ SlOK pl es a.2 len cap x cap'
  | .mp none, v => v = .map none
  | .mp (some b), v => ∃ pl, ρ b = some pl ∧ v = .map (some pl.k)
  | .fn g, v => v = .func (.func g) #[] #[]
  | .clo g ps, v => ∃ vs : List Value, v = .func (.func g) #[] vs.toArray ∧ PsRel ρ ps vs

def CsRel (ρ : Rho) : List C → List Value → Prop
  | [], [] => True
  | c :: cs, v :: vs => CRel ρ c v ∧ CsRel ρ cs vs
  | _, _ => False

def WRel (ρ : Rho) : W → Value → Prop
  | .one c, v => CRel ρ c v
  | .agg cs, v => ∃ vs : List Value, v = .agg vs.toArray ∧ CsRel ρ cs vs

def WsRel (ρ : Rho) : List W → List Value → Prop
  | [], [] => True
  | c :: cs, v :: vs => WRel ρ c v ∧ WsRel ρ cs vs
  | _, _ => False

def VRel (ρ : Rho) : V → Value → Prop
  | .und, _ => True
  | .off, v => v = undef
  | .w x, v => WRel ρ x v
  | .tup xs, v => ∃ vs : List Value, v = .tuple vs.toArray ∧ WsRel ρ xs vs

theorem PsRel.mono {ρ ρ' : Rho} (h : ρ.le ρ') : ∀ {ps : List Ptr} {vs : List Value}, PsRel ρ ps vs → PsRel ρ' ps vs
  | [], [], _ => trivial
  | none :: _, _ :: _, ⟨a, b⟩ => ⟨a, PsRel.mono h b⟩
  | some _ :: _, _ :: _, ⟨⟨pl, h1, h2⟩, b⟩ => ⟨⟨pl, h _ _ h1, h2⟩, PsRel.mono h b⟩
  | [], _ :: _, r => r.elim
  | none :: _, [], r => r.elim
  | some _ :: _, [], r => r.elim

theorem CRel.mono {ρ ρ' : Rho} (h : ρ.le ρ') {c : C} {v : Value} (r : CRel ρ c v) : CRel ρ' c v := by
  match c with
  | .int _ _ => exact r
  | .bool _ => exact r
  | .str _ => exact r
  | .ptr none => exact r
  | .ptr (some a) => obtain ⟨pl, h1, h2⟩ := r; exact ⟨pl, h _ _ h1, h2⟩
  | .sl _ ⟨none, _, _⟩ => exact r
  | .sl _ ⟨some a, _, _⟩ => obtain ⟨pl, x, c, h1, h2, h3⟩ := r; exact ⟨pl, x, c, h _ _ h1, h2, h3⟩
  | .mp none => exact r
  | .mp (some b) => obtain ⟨pl, h1, h2⟩ := r; exact ⟨pl, h _ _ h1, h2⟩
  | .fn _ => exact r
  | .clo _ _ => obtain ⟨vs, h1, h2⟩ := r; exact ⟨vs, h1, h2.mono h⟩

theorem CsRel.mono {ρ ρ' : Rho} (h : ρ.le ρ') : ∀ {cs : List C} {vs : List Value}, CsRel ρ cs vs → CsRel ρ' cs vs
  | [], [], _ => trivial
  | _ :: _, _ :: _, ⟨a, b⟩ => ⟨a.mono h, CsRel.mono h b⟩
  | [], _ :: _, r => r.elim
  | _ :: _, [], r => r.elim

theorem WRel.mono {ρ ρ' : Rho} (h : ρ.le ρ') {c : W} {v : Value} (r : WRel ρ c v) : WRel ρ' c v := by
  cases c with
  | one c => exact CRel.mono h r
  | agg cs => obtain ⟨vs, h1, h2⟩ := r; exact ⟨vs, h1, h2.mono h⟩

theorem WsRel.mono {ρ ρ' : Rho} (h : ρ.le ρ') : ∀ {cs : List W} {vs : List Value}, WsRel ρ cs vs → WsRel ρ' cs vs
  | [], [], _ => trivial
  | _ :: _, _ :: _, ⟨a, b⟩ => ⟨a.mono h, WsRel.mono h b⟩
  | [], _ :: _, r => r.elim
  | _ :: _, [], r => r.elim

theorem VRel.mono {ρ ρ' : Rho} (h : ρ.le ρ') {c : V} {v : Value} (r : VRel ρ c v) : VRel ρ' c v := by
  cases c with
  | und => trivial
  | off => exact r
  | w x => exact WRel.mono h r
  | tup xs => obtain ⟨vs, h1, h2⟩ := r; exact ⟨vs, h1, h2.mono h⟩

/-! Rows of cells. -/
theorem CsRel.length {ρ : Rho} : ∀ {cs : List C} {vs : List Value}, CsRel ρ cs vs → cs.length = vs.length
  | [], [], _ => rfl
  | _ :: _, _ :: _, ⟨_, b⟩ => by simp [CsRel.length b]
  | [], _ :: _, r => r.elim
  | _ :: _, [], r => r.elim
theorem CsRel.get {ρ : Rho} : ∀ {cs : List C} {vs : List Value}, CsRel ρ cs vs → ∀ {j : Nat} {c : C}, cs[j]? = some c → ∃ v, vs[j]? = some v ∧ CRel ρ c v
  | [], [], _, j, c, h => by simp at h
  | x :: xs, y :: ys, ⟨a, b⟩, j, c, h => by
    cases j with
    | zero => simp at h; subst h; exact ⟨y, by simp, a⟩
    | succ j => simp at h; obtain ⟨v, h1, h2⟩ := b.get h; exact ⟨v, by simpa using h1, h2⟩
  | [], _ :: _, r, _, _, _ => r.elim
  | _ :: _, [], r, _, _, _ => r.elim
theorem CsRel.append {ρ : Rho} : ∀ {cs ds : List C} {vs us : List Value}, CsRel ρ cs vs → CsRel ρ ds us → CsRel ρ (cs ++ ds) (vs ++ us)
  | [], _, [], _, _, h => h
  | _ :: _, _, _ :: _, _, ⟨a, b⟩, h => ⟨a, CsRel.append b h⟩
  | [], _, _ :: _, _, r, _ => r.elim
  | _ :: _, _, [], _, r, _ => r.elim
theorem CsRel.take {ρ : Rho} : ∀ {cs : List C} {vs : List Value} (n : Nat), CsRel ρ cs vs → CsRel ρ (cs.take n) (vs.take n)
  | [], [], n, _ => by simp [CsRel]
  | c :: cs, v :: vs, n, ⟨a, b⟩ => by
    cases n with
    | zero => simp [CsRel]
    | succ n => simpa [CsRel] using ⟨a, b.take n⟩
  | [], _ :: _, _, r => r.elim
  | _ :: _, [], _, r => r.elim
theorem CsRel.drop {ρ : Rho} : ∀ {cs : List C} {vs : List Value} (n : Nat), CsRel ρ cs vs → CsRel ρ (cs.drop n) (vs.drop n)
  | [], [], n, _ => by simp [CsRel]
  | c :: cs, v :: vs, n, ⟨a, b⟩ => by
    cases n with
    | zero => exact ⟨a, b⟩
    | succ n => simpa using b.drop n
  | [], _ :: _, _, r => r.elim
  | _ :: _, [], _, r => r.elim
theorem CsRel.set {ρ : Rho} : ∀ {cs : List C} {vs : List Value} (j : Nat) {c : C} {v : Value}, CsRel ρ cs vs → CRel ρ c v → CsRel ρ (cs.set j c) (vs.set j v)
  | [], [], _, _, _, _, _ => by simp [CsRel]
  | x :: xs, y :: ys, j, c, v, ⟨a, b⟩, h => by
    cases j with
    | zero => exact ⟨h, b⟩
    | succ j => exact ⟨a, b.set j h⟩
  | [], _ :: _, _, _, _, r, _ => r.elim
  | _ :: _, [], _, _, _, r, _ => r.elim
theorem CsRel.of_get {ρ : Rho} : ∀ {cs : List C} {vs : List Value}, cs.length = vs.length → (∀ (j : Nat) (c : C) (v : Value), cs[j]? = some c → vs[j]? = some v → CRel ρ c v) → CsRel ρ cs vs
  | [], [], _, _ => trivial
  | c :: cs, v :: vs, h, g => ⟨g 0 c v (by simp) (by simp), CsRel.of_get (by simpa using h) fun j c v h1 h2 => g (j + 1) c v (by rw [List.getElem?_cons_succ]; exact h1) (by rw [List.getElem?_cons_succ]; exact h2)⟩
  | [], _ :: _, h, _ => by simp at h
  | _ :: _, [], h, _ => by simp at h
theorem CsRel.replicate {ρ : Rho} {c : C} {v : Value} (h : CRel ρ c v) : ∀ n, CsRel ρ (List.replicate n c) (List.replicate n v)
  | 0 => trivial
  | n + 1 => ⟨h, CsRel.replicate h n⟩

def setV : List Value → Nat → List Value → List Value
  | cs, _, [] => cs
  | cs, o, c :: r => setV (cs.set o c) (o + 1) r
theorem setV_length : ∀ (new cs : List Value) (o : Nat), (setV cs o new).length = cs.length
  | [], _, _ => rfl
  | _ :: r, cs, o => by simp [setV, setV_length r]
theorem setL_length : ∀ (new cs : List C) (o : Nat), (setL cs o new).length = cs.length
  | [], _, _ => rfl
  | _ :: r, cs, o => by simp [setL, setL_length r]
theorem CsRel.setL {ρ : Rho} : ∀ {new : List C} {us : List Value} {cs : List C} {vs : List Value} (o : Nat), CsRel ρ cs vs → CsRel ρ new us → CsRel ρ (setL cs o new) (setV vs o us)
  | [], [], _, _, _, h, _ => h
  | _ :: _, _ :: _, _, _, o, h, ⟨a, b⟩ => CsRel.setL (o + 1) (h.set o a) b
  | [], _ :: _, _, _, _, _, r => r.elim
  | _ :: _, [], _, _, _, _, r => r.elim
theorem setV_drop : ∀ (us vs : List Value) (base o : Nat), (setV vs (base + o) us).drop base = setV (vs.drop base) o us
  | [], _, _, _ => rfl
  | u :: r, vs, base, o => by
    simp only [setV]
    have h := setV_drop r (vs.set (base + o) u) base (o + 1)
    rw [← Nat.add_assoc] at h
    rw [h]
    have e : List.drop base (vs.set (base + o) u) = (List.drop base vs).set o u := by
      rw [List.drop_set, if_neg (by omega), Nat.add_sub_cancel_left]
    rw [e]
theorem setV_take : ∀ (us vs : List Value) (o n : Nat), o + us.length ≤ n → (setV vs o us).take n = setV (vs.take n) o us
  | [], _, _, _, _ => rfl
  | u :: r, vs, o, n, h => by
    simp only [setV]
    rw [setV_take r _ _ _ (by simp at h; omega), List.take_set]

/-! One cell of each. -/
def _root_.Go.Value.oneC : Value → Bool
  | .agg _ | .tuple _ => false
  | _ => true

theorem CRel.oneC {ρ : Rho} {c : C} {v : Value} (h : CRel ρ c v) : v.oneC = true := by
  match c, h with
  | .int _ _, h => subst h; rfl
  | .bool _, h => subst h; rfl
  | .str _, ⟨x, h, _⟩ => subst h; rfl
  | .ptr none, h => subst h; rfl
  | .ptr (some a), ⟨pl, _, h⟩ => subst h; rfl
  | .sl _ ⟨none, _, _⟩, ⟨_, _, h⟩ => subst h; rfl
  | .sl _ ⟨some a, _, _⟩, ⟨pl, x, c, _, h, _⟩ => subst h; rfl
  | .mp none, h => subst h; rfl
  | .mp (some b), ⟨pl, _, h⟩ => subst h; rfl
  | .fn _, h => subst h; rfl
  | .clo _ _, ⟨vs, h, _⟩ => subst h; rfl
theorem CRel.cells {ρ : Rho} {c : C} {v : Value} (h : CRel ρ c v) : v.cells = #[v] := by
  have := h.oneC
  cases v <;> simp_all [Value.cells, Value.oneC]
theorem CsRel.oneC {ρ : Rho} : ∀ {cs : List C} {vs : List Value}, CsRel ρ cs vs → ∀ v ∈ vs, v.oneC = true
  | [], [], _, _, h => by simp at h
  | _ :: _, _ :: _, ⟨a, b⟩, v, h => by
    rcases List.mem_cons.1 h with rfl | h
    · exact a.oneC
    · exact b.oneC v h
  | [], _ :: _, r, _, _ => r.elim
  | _ :: _, [], r, _, _ => r.elim

def W.cs : W → List C
  | .one c => [c]
  | .agg cs => cs
theorem WRel.cs {ρ : Rho} {x : W} {v : Value} (h : WRel ρ x v) : CsRel ρ x.cs v.cells.toList := by
  cases x with
  | one c => have h : CRel ρ c v := h; rw [h.cells]; exact ⟨h, trivial⟩
  | agg cs => obtain ⟨vs, rfl, h⟩ := h; simpa [W.cs, Value.cells] using h

/-! Memory. -/
structure BlkRel (ρ : Rho) (pl : Pl) (acs : List C) (bk : BK) (w : World) : Prop where
  ex : ∃ (vs : List Value) (el : TypeId) (fr : Nat × Nat), w.heap[pl.k]? = some (.cells vs.toArray el fr) ∧ vs.length = pl.n2 ∧ CsRel ρ acs ((vs.drop pl.base).take pl.n) ∧
    (bk ≠ .ro → ∀ j, fr.1 ≤ j → j < fr.2 → pl.n2 ≤ j)
  len : acs.length = pl.n
  fits : pl.base + pl.n ≤ pl.n2
  exact : bk = .exact → pl.base = 0 ∧ pl.n2 = pl.n ∧ pl.loose = false
  loose : bk ≠ .exact → pl.loose = true

/-- A map's entries, one by one. -/
def ERel (ρ : Rho) (x : Int × W) (e : MapEntry) : Prop := e.key = .int .i64 x.1 ∧ WRel ρ x.2 e.val
def EsRel (ρ : Rho) : MEs → List MapEntry → Prop
  | [], [] => True
  | x :: r, e :: s => ERel ρ x e ∧ EsRel ρ r s
  | _, _ => False
structure MpRel (ρ : Rho) (pl : Pl) (es : MEs) (w : World) : Prop where
  ex : ∃ (ents : Array MapEntry) (l : List MapEntry) (ck : Nat), w.heap[pl.k]? = some (.map ents ck) ∧ ents.toList.Perm l ∧ EsRel ρ es l ∧ (l.Pairwise fun e f => e.born ≠ f.born) ∧ ∀ e ∈ l, e.born < ck
  sorted : es.Pairwise fun x y => x.1 < y.1

theorem EsRel.mono {ρ ρ' : Rho} (h : ρ.le ρ') : ∀ {es : MEs} {l : List MapEntry}, EsRel ρ es l → EsRel ρ' es l
  | [], [], _ => trivial
  | _ :: _, _ :: _, ⟨⟨a, b⟩, r⟩ => ⟨⟨a, b.mono h⟩, EsRel.mono h r⟩
  | [], _ :: _, r => r.elim
  | _ :: _, [], r => r.elim
theorem MpRel.mono {ρ ρ' : Rho} (h : ρ.le ρ') {pl : Pl} {es : MEs} {w : World} (r : MpRel ρ pl es w) : MpRel ρ' pl es w := by
  obtain ⟨⟨ents, l, ck, h1, h2, h3, h4⟩, a⟩ := r
  exact ⟨⟨ents, l, ck, h1, h2, h3.mono h, h4⟩, a⟩
theorem MpRel.world {ρ : Rho} {pl : Pl} {es : MEs} {w w' : World} (r : MpRel ρ pl es w) (h : w'.heap[pl.k]? = w.heap[pl.k]?) : MpRel ρ pl es w' := by
  obtain ⟨⟨ents, l, ck, h1, h2, h3, h4⟩, a⟩ := r
  exact ⟨⟨ents, l, ck, h.trans h1, h2, h3, h4⟩, a⟩
theorem MpRel.lt {ρ : Rho} {pl : Pl} {es : MEs} {w : World} (r : MpRel ρ pl es w) : pl.k < w.heap.size := by
  obtain ⟨⟨ents, l, ck, h1, _⟩, _⟩ := r
  rcases Nat.lt_or_ge pl.k w.heap.size with h | h
  · exact h
  · simp [Array.getElem?_eq_none h] at h1
/-- A map stands where no cells stand. -/
theorem MpRel.apart {ρ ρ' : Rho} {pl pl' : Pl} {es : MEs} {acs : List C} {bk : BK} {w : World} (r : MpRel ρ pl es w) (q : BlkRel ρ' pl' acs bk w) : pl.k ≠ pl'.k := by
  obtain ⟨⟨ents, l, ck, h1, _⟩, _⟩ := r
  obtain ⟨⟨vs, el, fr, h2, _⟩, _⟩ := q
  intro e
  rw [e, h2] at h1
  cases h1

def wrB (H : Heap) (b : Nat) : Prop := (∃ cs bk, H[b]? = some (.cells cs bk) ∧ bk ≠ .ro) ∨ ∃ es ck, H[b]? = some (.mp es ck)

structure R (ρ : Rho) (H : Heap) (w : World) : Prop where
  dom : ∀ b pl, ρ b = some pl → b < H.length
  blk : ∀ b pl acs bk, ρ b = some pl → H[b]? = some (.cells acs bk) → BlkRel ρ pl acs bk w
  sep : ∀ b b' pl pl' acs acs' bk bk', b ≠ b' → ρ b = some pl → ρ b' = some pl' → H[b]? = some (.cells acs bk) → H[b']? = some (.cells acs' bk') → bk ≠ .ro → pl.k ≠ pl'.k
  mp : ∀ b pl es ck, ρ b = some pl → H[b]? = some (.mp es ck) → MpRel ρ pl es w
  sepm : ∀ b b' pl pl' es es' ck ck', b ≠ b' → ρ b = some pl → ρ b' = some pl' → H[b]? = some (.mp es ck) → H[b']? = some (.mp es' ck') → pl.k ≠ pl'.k

/-- A map, ahead of something and behind it: where nothing was deleted, and no key came, each entry is the one that it was. -/
def MapStep (es : MEs) (dc : Nat) (es' : MEs) (dc' : Nat) (o o' : Option Obj) : Prop :=
  dc ≤ dc' ∧ (dc = dc' → es.length ≤ es'.length ∧ (es.length = es'.length → ∃ (ents ents' : Array MapEntry) (ck : Nat), o = some (.map ents ck) ∧ o' = some (.map ents' ck) ∧ ents.toList.map (fun e => (e.key, e.born)) = ents'.toList.map fun e => (e.key, e.born)))
theorem MapStep.trans {es es' es'' : MEs} {dc dc' dc'' : Nat} {o o' o'' : Option Obj} (h : MapStep es dc es' dc' o o') (k : MapStep es' dc' es'' dc'' o' o'') : MapStep es dc es'' dc'' o o'' := by
  obtain ⟨h1, h2⟩ := h
  obtain ⟨k1, k2⟩ := k
  refine ⟨Nat.le_trans h1 k1, fun e => ?_⟩
  obtain ⟨h3, h4⟩ := h2 (by omega)
  obtain ⟨k3, k4⟩ := k2 (by omega)
  refine ⟨Nat.le_trans h3 k3, fun e' => ?_⟩
  obtain ⟨a, b, c, g1, g2, g3⟩ := h4 (by omega)
  obtain ⟨a', b', c', g4, g5, g6⟩ := k4 (by omega)
  rw [g2] at g4
  cases g4
  exact ⟨a, b', _, g1, g5, g3.trans g6⟩
theorem MapStep.same {ρ : Rho} {pl : Pl} {es : MEs} {dc : Nat} {w w' : World} (m : MpRel ρ pl es w) (h : w'.heap[pl.k]? = w.heap[pl.k]?) : MapStep es dc es dc (w.heap[pl.k]?) (w'.heap[pl.k]?) := by
  obtain ⟨⟨ents, l, ck, h1, _⟩, _⟩ := m
  exact ⟨Nat.le_refl _, fun _ => ⟨Nat.le_refl _, fun _ => ⟨ents, ents, ck, h1, h.trans h1, rfl⟩⟩⟩

/-- What a step may do: nothing that was there turns, but blocks that may be written. -/
structure Ext (ρ : Rho) (H : Heap) (w : World) (ρ' : Rho) (H' : Heap) (w' : World) : Prop where
  le : ρ.le ρ'
  len : H.length ≤ H'.length
  new : ∀ b pl, ρ' b = some pl → ρ b = none → H.length ≤ b ∧ (w.heap.size ≤ pl.k ∨ ∃ b0 pl0, ρ b0 = some pl0 ∧ wrB H b0 ∧ pl0.k = pl.k)
  wr : ∀ b, b < H.length → wrB H' b → wrB H b
  size : w.heap.size ≤ w'.heap.size
  os : w'.os = w.os
  tape : w'.tape = w.tape
  output : w'.output = w.output
  frame : ∀ j, j < w.heap.size → (∀ b pl, ρ b = some pl → pl.k = j → ¬ wrB H b) → w'.heap[j]? = w.heap[j]?
  maps : ∀ b pl es dc, ρ b = some pl → H[b]? = some (.mp es dc) → ∃ es' dc', H'[b]? = some (.mp es' dc') ∧ MapStep es dc es' dc' (w.heap[pl.k]?) (w'.heap[pl.k]?)

theorem Ext.refl {ρ : Rho} {H : Heap} {w : World} (hR : R ρ H w) : Ext ρ H w ρ H w :=
  ⟨Rho.le_refl _, Nat.le_refl _, fun b pl h h' => by simp [h] at h', fun _ _ h => h, Nat.le_refl _, rfl, rfl, rfl, fun _ _ _ => rfl, fun b pl es dc h1 h2 => ⟨es, dc, h2, MapStep.same (hR.mp b pl es dc h1 h2) rfl⟩⟩

theorem Ext.trans {ρ ρ' ρ'' : Rho} {H H' H'' : Heap} {w w' w'' : World} (h : Ext ρ H w ρ' H' w') (k : Ext ρ' H' w' ρ'' H'' w'') (hd : ∀ b pl, ρ b = some pl → b < H.length) :
    Ext ρ H w ρ'' H'' w'' where
  le := Rho.le_trans h.le k.le
  len := Nat.le_trans h.len k.len
  new := by
    intro b pl h1 h2
    cases h3 : ρ' b with
    | none =>
      obtain ⟨h4, h5⟩ := k.new b pl h1 h3
      refine ⟨Nat.le_trans h.len h4, ?_⟩
      rcases h5 with h5 | ⟨b0, pl0, h6, h7, h8⟩
      · exact .inl (Nat.le_trans h.size h5)
      · cases h9 : ρ b0 with
        | some pl1 =>
          have := h.le _ _ h9
          rw [h6] at this
          cases this
          exact .inr ⟨b0, pl0, h9, h.wr _ (hd _ _ h9) h7, h8⟩
        | none =>
          obtain ⟨_, h10⟩ := h.new b0 pl0 h6 h9
          rw [h8] at h10
          exact h10
    | some pl' =>
      have := k.le _ _ h3
      rw [h1] at this
      cases this
      exact h.new b pl h3 h2
  wr := fun b hb hw => h.wr b hb (k.wr b (Nat.lt_of_lt_of_le hb h.len) hw)
  size := Nat.le_trans h.size k.size
  os := k.os.trans h.os
  tape := k.tape.trans h.tape
  output := k.output.trans h.output
  frame := by
    intro j hj hno
    rw [k.frame j (Nat.lt_of_lt_of_le hj h.size), h.frame j hj hno]
    intro b pl h1 h2 h3
    cases h4 : ρ b with
    | some pl0 =>
      have := h.le _ _ h4
      rw [h1] at this
      cases this
      exact hno b pl h4 h2 (h.wr b (hd _ _ h4) h3)
    | none =>
      obtain ⟨_, h5⟩ := h.new b pl h1 h4
      rcases h5 with h5 | ⟨b0, pl0, h6, h7, h8⟩
      · omega
      · exact hno b0 pl0 h6 (h8.trans h2) h7
  maps := by
    intro b pl es dc h1 h2
    obtain ⟨es', dc', h3, h4⟩ := h.maps b pl es dc h1 h2
    obtain ⟨es'', dc'', h5, h6⟩ := k.maps b pl es' dc' (h.le _ _ h1) h3
    exact ⟨es'', dc'', h5, h4.trans h6⟩

end Ev
namespace Ev
open Go

def Rho.set (ρ : Rho) (b : Nat) (pl : Pl) : Rho := fun x => if x = b then some pl else ρ x
theorem Rho.set_same (ρ : Rho) (b : Nat) (pl : Pl) : ρ.set b pl b = some pl := by simp [Rho.set]
theorem Rho.set_other (ρ : Rho) {b x : Nat} (pl : Pl) (h : x ≠ b) : ρ.set b pl x = ρ x := by simp [Rho.set, h]
theorem Rho.le_set {ρ : Rho} {b : Nat} (pl : Pl) (h : ρ b = none) : ρ.le (ρ.set b pl) := by
  intro x p hx
  by_cases e : x = b
  · subst e; rw [h] at hx; cases hx
  · rw [Rho.set_other _ _ e]; exact hx

theorem BlkRel.mono {ρ ρ' : Rho} (h : ρ.le ρ') {pl : Pl} {acs : List C} {bk : BK} {w : World} (r : BlkRel ρ pl acs bk w) : BlkRel ρ' pl acs bk w := by
  obtain ⟨⟨vs, el, fr, h1, h2, h3, h4⟩, a, b, c, d⟩ := r
  exact ⟨⟨vs, el, fr, h1, h2, h3.mono h, h4⟩, a, b, c, d⟩
theorem BlkRel.world {ρ : Rho} {pl : Pl} {acs : List C} {bk : BK} {w w' : World} (r : BlkRel ρ pl acs bk w) (h : w'.heap[pl.k]? = w.heap[pl.k]?) : BlkRel ρ pl acs bk w' := by
  obtain ⟨⟨vs, el, fr, h1, h2, h3, h4⟩, a, b, c, d⟩ := r
  exact ⟨⟨vs, el, fr, h.trans h1, h2, h3, h4⟩, a, b, c, d⟩
theorem BlkRel.lt {ρ : Rho} {pl : Pl} {acs : List C} {bk : BK} {w : World} (r : BlkRel ρ pl acs bk w) : pl.k < w.heap.size := by
  obtain ⟨⟨vs, el, fr, h1, _⟩, _⟩ := r
  rcases Nat.lt_or_ge pl.k w.heap.size with h | h
  · exact h
  · simp [Array.getElem?_eq_none h] at h1

theorem R.world {ρ : Rho} {H : Heap} {w w' : World} (r : R ρ H w) (h : ∀ k, k < w.heap.size → w'.heap[k]? = w.heap[k]?) : R ρ H w' :=
  ⟨r.dom, fun b pl acs bk h1 h2 => (r.blk b pl acs bk h1 h2).world (h _ (r.blk b pl acs bk h1 h2).lt), r.sep, fun b pl es ck h1 h2 => (r.mp b pl es ck h1 h2).world (h _ (r.mp b pl es ck h1 h2).lt), r.sepm⟩

theorem getElem?_push_lt {α : Type} (a : Array α) (x : α) {k : Nat} (h : k < a.size) : (a.push x)[k]? = a[k]? := by
  rw [Array.getElem?_push, if_neg (by omega)]

theorem R.none_of_len {ρ : Rho} {H : Heap} {w : World} (r : R ρ H w) : ρ H.length = none := by
  cases h : ρ H.length with
  | none => rfl
  | some pl => exact absurd (r.dom _ _ h) (Nat.lt_irrefl _)

theorem mp_left {H : Heap} {cs : List C} {bk : BK} {b : Nat} {es : MEs} {ck : Nat} (h : (H ++ [Blk.cells cs bk])[b]? = some (.mp es ck)) : b < H.length ∧ H[b]? = some (.mp es ck) := by
  rcases Nat.lt_or_ge b H.length with hb | hb
  · rw [List.getElem?_append_left hb] at h; exact ⟨hb, h⟩
  · rw [List.getElem?_append_right hb] at h
    cases hc : b - H.length <;> simp [hc] at h
theorem wrB_left {H bs : Heap} {b : Nat} (hb : b < H.length) (h : wrB (H ++ bs) b) : wrB H b := by
  rcases h with ⟨cs, bk, h1, h2⟩ | ⟨es, ck, h1⟩
  · rw [List.getElem?_append_left hb] at h1; exact .inl ⟨cs, bk, h1, h2⟩
  · rw [List.getElem?_append_left hb] at h1; exact .inr ⟨es, ck, h1⟩

/-- A new block. -/
theorem R.alloc {ρ : Rho} {H : Heap} {w w' : World} (r : R ρ H w) (acs : List C) (bk : BK) (vs : List Value) (el : TypeId) (fr : Nat × Nat)
    (hw : w'.heap = w.heap.push (.cells vs.toArray el fr)) (ho : w'.os = w.os) (ht : w'.tape = w.tape) (hp : w'.output = w.output)
    (hc : CsRel ρ acs (vs.take acs.length)) (hl : acs.length ≤ vs.length) (hx : bk = .exact → vs.length = acs.length)
    (hf : ∀ j, fr.1 ≤ j → j < fr.2 → vs.length ≤ j) :
    R (ρ.set H.length ⟨w.heap.size, 0, acs.length, vs.length, !decide (bk = .exact)⟩) (H ++ [.cells acs bk]) w' ∧
    Ext ρ H w (ρ.set H.length ⟨w.heap.size, 0, acs.length, vs.length, !decide (bk = .exact)⟩) (H ++ [.cells acs bk]) w' := by
  have hn := r.none_of_len
  have hle := Rho.le_set ⟨w.heap.size, 0, acs.length, vs.length, !decide (bk = .exact)⟩ hn
  have hold : ∀ k, k < w.heap.size → w'.heap[k]? = w.heap[k]? := fun k hk => by rw [hw, getElem?_push_lt _ _ hk]
  refine ⟨⟨?_, ?_, ?_, ?_, ?_⟩, ⟨hle, by simp, ?_, ?_, by rw [hw]; simp, ho, ht, hp, fun k hk _ => hold k hk, fun b pl es dc h1 h2 => ⟨es, dc, by rw [List.getElem?_append_left (r.dom _ _ h1)]; exact h2, MapStep.same (r.mp b pl es dc h1 h2) (hold _ (r.mp b pl es dc h1 h2).lt)⟩⟩⟩
  · intro b pl h
    by_cases e : b = H.length
    · subst e; simp
    · rw [Rho.set_other _ _ e] at h
      have := r.dom _ _ h
      simp; omega
  · intro b pl acs' bk' h1 h2
    by_cases e : b = H.length
    · subst e
      rw [Rho.set_same] at h1
      cases h1
      simp at h2
      obtain ⟨rfl, rfl⟩ := h2
      refine ⟨⟨vs, el, fr, ?_, rfl, by simpa using hc.mono hle, fun _ => hf⟩, rfl, by simpa using hl, fun h => ⟨rfl, hx h, by simp [h]⟩, fun h => by simp [h]⟩
      rw [hw]; simp
    · rw [Rho.set_other _ _ e] at h1
      have hb := r.dom _ _ h1
      rw [List.getElem?_append_left hb] at h2
      have q := r.blk b pl acs' bk' h1 h2
      exact (q.world (hold _ q.lt)).mono hle
  · intro b b' pl pl' a1 a2 k1 k2 hne h1 h1' h2 h2' hr
    by_cases e : b = H.length
    · subst e
      rw [Rho.set_same] at h1
      cases h1
      rw [Rho.set_other _ _ (Ne.symm hne)] at h1'
      have hb := r.dom _ _ h1'
      rw [List.getElem?_append_left hb] at h2'
      have := (r.blk _ _ _ _ h1' h2').lt
      simp; omega
    · rw [Rho.set_other _ _ e] at h1
      have hb := r.dom _ _ h1
      rw [List.getElem?_append_left hb] at h2
      by_cases e' : b' = H.length
      · subst e'
        rw [Rho.set_same] at h1'
        cases h1'
        have := (r.blk _ _ _ _ h1 h2).lt
        simp; omega
      · rw [Rho.set_other _ _ e'] at h1'
        have hb' := r.dom _ _ h1'
        rw [List.getElem?_append_left hb'] at h2'
        exact r.sep b b' pl pl' a1 a2 k1 k2 hne h1 h1' h2 h2' hr
  · intro b pl es ck h1 h2
    obtain ⟨hb, h2⟩ := mp_left h2
    rw [Rho.set_other _ _ (by omega)] at h1
    have q := r.mp b pl es ck h1 h2
    exact (q.world (hold _ q.lt)).mono hle
  · intro b b' pl pl' es es' ck ck' hne h1 h1' h2 h2'
    obtain ⟨hb, h2⟩ := mp_left h2
    obtain ⟨hb', h2'⟩ := mp_left h2'
    rw [Rho.set_other _ _ (by omega)] at h1 h1'
    exact r.sepm b b' pl pl' es es' ck ck' hne h1 h1' h2 h2'
  · intro b pl h1 h2
    by_cases e : b = H.length
    · subst e
      rw [Rho.set_same] at h1
      cases h1
      exact ⟨Nat.le_refl _, .inl (Nat.le_refl _)⟩
    · rw [Rho.set_other _ _ e] at h1
      rw [h1] at h2; cases h2
  · exact fun b hb h => wrB_left hb h

def putRow (w : World) (k : Nat) (o : Obj) : World := { w with heap := w.heap.setIfInBounds k o }

theorem wr_some {H H' : Heap} {b o : Nat} {new : List C} (h : wr H b o new = some H') :
    ∃ cs bk, H[b]? = some (.cells cs bk) ∧ bk ≠ .ro ∧ o + new.length ≤ cs.length ∧ H' = H.set b (.cells (setL cs o new) bk) := by
  unfold wr at h
  cases hb : H[b]? with
  | none => simp [hb] at h
  | some x =>
    cases x with
    | dead => simp [hb] at h
    | mp es ck => simp [hb] at h
    | cells cs bk =>
      simp only [hb] at h
      by_cases h1 : bk ≠ .ro
      · by_cases h2 : o + new.length ≤ cs.length
        · simp [h1, h2] at h; exact ⟨cs, bk, rfl, h1, h2, h.symm⟩
        · simp [h2] at h
      · simp [h1] at h

/-- A store into a block. -/
theorem R.store {ρ : Rho} {H H' : Heap} {w : World} (r : R ρ H w) {b o : Nat} {pl : Pl} {new : List C} {us : List Value} (hρ : ρ b = some pl) (hw : wr H b o new = some H') (hu : CsRel ρ new us) :
    ∃ vs el fr, w.heap[pl.k]? = some (.cells vs.toArray el fr) ∧ pl.base + o + us.length ≤ vs.length ∧ (∀ j, fr.1 ≤ j → j < fr.2 → vs.length ≤ j) ∧
      R ρ H' (putRow w pl.k (.cells (setV vs (pl.base + o) us).toArray el fr)) ∧ Ext ρ H w ρ H' (putRow w pl.k (.cells (setV vs (pl.base + o) us).toArray el fr)) := by
  obtain ⟨cs, bk, hb, hro, hlen, rfl⟩ := wr_some hw
  have q := r.blk b pl cs bk hρ hb
  obtain ⟨⟨vs, el, fr, h1, h2, h3, h4⟩, hl, hfit, hex, hlo⟩ := q
  have hk := (r.blk b pl cs bk hρ hb).lt
  have hul := hu.length
  have hblt := r.dom _ _ hρ
  have hold : ∀ k, k ≠ pl.k → (putRow w pl.k (.cells (setV vs (pl.base + o) us).toArray el fr)).heap[k]? = w.heap[k]? := fun k hk => by
    simp only [putRow]
    rw [Array.getElem?_setIfInBounds_ne (Ne.symm hk)]
  have gom : ∀ (x : Nat) (es : MEs) (ck : Nat), (List.set H b (Blk.cells (setL cs o new) bk))[x]? = some (Blk.mp es ck) → H[x]? = some (Blk.mp es ck) := by
    intro x es ck h
    by_cases e : x = b
    · subst e; rw [List.getElem?_set_self hblt] at h; cases h
    · rw [List.getElem?_set_ne (Ne.symm e)] at h; exact h
  refine ⟨vs, el, fr, h1, by omega, fun j hj hj' => by have := h4 hro j hj hj'; omega, ⟨?_, ?_, ?_, ?_, ?_⟩, ⟨Rho.le_refl _, by simp, fun b pl h h' => by simp [h] at h', ?_, by simp [putRow], rfl, rfl, rfl, ?_, ?_⟩⟩
  · intro b' pl' h; simpa using r.dom _ _ h
  · intro b' pl' acs bk' h h'
    by_cases e : b' = b
    · subst e
      rw [hρ] at h; cases h
      rw [List.getElem?_set_self hblt] at h'
      simp at h'
      obtain ⟨rfl, rfl⟩ := h'
      refine ⟨⟨setV vs (pl.base + o) us, el, fr, ?_, by rw [setV_length]; exact h2, ?_, fun _ => h4 hro⟩, by rw [setL_length]; exact hl, hfit, hex, hlo⟩
      · simp only [putRow]; rw [Array.getElem?_setIfInBounds_self_of_lt hk]
      · rw [setV_drop, setV_take _ _ _ _ (by omega)]
        exact h3.setL o hu
    · rw [List.getElem?_set_ne (Ne.symm e)] at h'
      have q := r.blk _ _ _ _ h h'
      exact q.world (hold _ (fun hk => r.sep b b' pl pl' _ _ _ _ (Ne.symm e) hρ h hb h' hro hk.symm))
  · intro b1 b2 p1 p2 a1 a2 k1 k2 hne g1 g2 g3 g4 hr
    have go : ∀ (x : Nat) (a : List C) (k : BK), (List.set H b (Blk.cells (setL cs o new) bk))[x]? = some (Blk.cells a k) → ∃ a', H[x]? = some (Blk.cells a' k) := by
      intro x a k h
      by_cases e : x = b
      · subst e; rw [List.getElem?_set_self hblt] at h; simp at h; obtain ⟨_, rfl⟩ := h; exact ⟨cs, hb⟩
      · rw [List.getElem?_set_ne (Ne.symm e)] at h; exact ⟨a, h⟩
    obtain ⟨a1', g3'⟩ := go _ _ _ g3
    obtain ⟨a2', g4'⟩ := go _ _ _ g4
    exact r.sep b1 b2 p1 p2 a1' a2' k1 k2 hne g1 g2 g3' g4' hr
  · intro x p es ck h1 h2
    have h2 := gom x es ck h2
    have q := r.mp x p es ck h1 h2
    exact q.world (hold _ (q.apart (r.blk b pl cs bk hρ hb)))
  · intro x y p p' es es' ck ck' hne h1 h1' h2 h2'
    exact r.sepm x y p p' es es' ck ck' hne h1 h1' (gom x es ck h2) (gom y es' ck' h2')
  · rintro x hx (⟨a, k, h, h'⟩ | ⟨es, ck, h⟩)
    · by_cases e : x = b
      · subst e; exact .inl ⟨cs, bk, hb, hro⟩
      · rw [List.getElem?_set_ne (Ne.symm e)] at h; exact .inl ⟨a, k, h, h'⟩
    · exact .inr ⟨es, ck, gom x es ck h⟩
  · intro j hj hno
    exact hold j (fun e => hno b pl hρ e.symm (.inl ⟨cs, bk, hb, hro⟩))
  · intro x p es dc h1 h2
    have q := r.mp x p es dc h1 h2
    have hx : b ≠ x := fun e => by subst e; rw [hb] at h2; cases h2
    exact ⟨es, dc, by rw [List.getElem?_set_ne hx]; exact h2, MapStep.same q (hold _ (q.apart (r.blk b pl cs bk hρ hb)))⟩

/-! The machine's own steps on a row of cells. -/
theorem setCell_row {w : World} {k : Nat} {vs : List Value} {el : TypeId} {fr : Nat × Nat} (h : w.heap[k]? = some (.cells vs.toArray el fr)) (o : Nat) (v : Value) :
    w.setCell ⟨k, o, none⟩ v = putRow w k (.cells (vs.set o v).toArray el fr) := by
  have hk : k < w.heap.size := by
    rcases Nat.lt_or_ge k w.heap.size with h' | h'
    · exact h'
    · simp [Array.getElem?_eq_none h'] at h
  have hx : w.heap[k] = .cells vs.toArray el fr := by simpa [Array.getElem?_eq_getElem hk] using h
  have hmod : ∀ f : Obj → Obj, w.heap.modify k f = w.heap.setIfInBounds k (f w.heap[k]) := by
    intro f
    apply Array.ext
    · simp
    · intro i h1 h2
      rw [Array.getElem_modify, Array.getElem_setIfInBounds (by simpa using h2)]
      split
      · rename_i e; subst e; rfl
      · rfl
  simp only [World.setCell, putRow, hmod, hx]
  simp

theorem putRow_putRow (w : World) (k : Nat) (o o' : Obj) : putRow (putRow w k o) k o' = putRow w k o' := by
  simp [putRow]
theorem putRow_get {w : World} {k : Nat} {x : Obj} (o : Obj) (h : w.heap[k]? = some x) : (putRow w k o).heap[k]? = some o := by
  have hk : k < w.heap.size := by
    rcases Nat.lt_or_ge k w.heap.size with h' | h'
    · exact h'
    · simp [Array.getElem?_eq_none h'] at h
  simp only [putRow]; rw [Array.getElem?_setIfInBounds_self_of_lt hk]
theorem putRow_self {w : World} {k : Nat} {x : Obj} (h : w.heap[k]? = some x) : putRow w k x = w := by
  have hk : k < w.heap.size := by
    rcases Nat.lt_or_ge k w.heap.size with h' | h'
    · exact h'
    · simp [Array.getElem?_eq_none h'] at h
  have hx : w.heap[k] = x := by simpa [Array.getElem?_eq_getElem hk] using h
  have : w.heap.setIfInBounds k x = w.heap := by
    apply Array.ext
    · simp
    · intro i h1 h2
      rw [Array.getElem_setIfInBounds]
      split
      · rename_i e; subst e; exact hx.symm
      · rfl
  simp only [putRow, this]

theorem cell?_row {w : World} {k : Nat} {vs : List Value} {el : TypeId} {fr : Nat × Nat} (h : w.heap[k]? = some (.cells vs.toArray el fr)) (o : Nat) :
    w.cell? ⟨k, o, none⟩ = vs[o]? := by
  simp [World.cell?, h]

theorem run_storeCells_row {P : Program} {k : Nat} {el : TypeId} {fr : Nat × Nat} : ∀ (us : List Value) (off i : Nat) (vs : List Value) (w : World),
    w.heap[k]? = some (.cells vs.toArray el fr) → off + i + us.length ≤ vs.length → (∀ j, fr.1 ≤ j → j < fr.2 → vs.length ≤ j) → (∀ v ∈ us, v.oneC = true) →
    (storeCells ⟨k, off, none⟩ us i).run P w = .ok () (putRow w k (.cells (setV vs (off + i) us).toArray el fr))
  | [], off, i, vs, w, h, _, _, _ => by
    simp only [storeCells, setV]
    rw [putRow_self h]; rfl
  | u :: r, off, i, vs, w, h, hl, hf, ho => by
    simp at hl
    have hadd : (⟨k, off, none⟩ : Addr).add i = ⟨k, off + i, none⟩ := by
      unfold Addr.add; split
      · rename_i e; subst e; rfl
      · rfl
    have hc : w.cell? ⟨k, off + i, none⟩ = some (vs[off + i]'(by omega)) := by
      rw [cell?_row h, List.getElem?_eq_getElem (by omega)]
    have hfz : w.frozen? ⟨k, off + i, none⟩ = false := by
      simp only [World.frozen?, h]
      cases hq : (decide (fr.1 ≤ off + i) && decide (off + i < fr.2)) with
      | false => rfl
      | true =>
        simp at hq
        have := hf _ hq.1 hq.2
        omega
    have hst : (store ⟨k, off + i, none⟩ u).run P w = .ok () (w.setCell ⟨k, off + i, none⟩ u) := by
      have h1 : u.oneC = true := ho u (by simp)
      cases u <;> simp_all [store, Sem.run, Value.oneC]
    simp only [storeCells, hadd]
    simp only [Sem.run_bind, hst, Result.andThen]
    rw [setCell_row h]
    have h' := putRow_get (.cells (vs.set (off + i) u).toArray el fr) h
    have := run_storeCells_row (P := P) r off (i + 1) (vs.set (off + i) u) _ h' (by simp; omega) (by simpa using hf) (fun v hv => ho v (by simp [hv]))
    rw [this, putRow_putRow]
    rfl

theorem run_loadCellsFrom_row {P : Program} {k : Nat} {vs : List Value} {el : TypeId} {fr : Nat × Nat} {w : World} (h : w.heap[k]? = some (.cells vs.toArray el fr)) (off : Nat) :
    ∀ (n i : Nat) (acc : Array Value), off + i + n ≤ vs.length → (loadCellsFrom ⟨k, off, none⟩ i n acc).run P w = .ok (acc ++ ((vs.drop (off + i)).take n).toArray) w
  | 0, i, acc, _ => by simp [loadCellsFrom]
  | n + 1, i, acc, hl => by
    have hadd : (⟨k, off, none⟩ : Addr).add i = ⟨k, off + i, none⟩ := by
      unfold Addr.add; split
      · rename_i e; subst e; rfl
      · rfl
    have hlt : off + i < vs.length := by omega
    have hc : w.cell? ⟨k, off + i, none⟩ = some (vs[off + i]) := by
      rw [cell?_row h, List.getElem?_eq_getElem hlt]
    have hld : (load ⟨k, off + i, none⟩).run P w = .ok (vs[off + i]) w := by simp [load, Sem.run, hc]
    simp only [loadCellsFrom, hadd, Sem.run_bind, hld, Result.andThen]
    rw [run_loadCellsFrom_row h off n (i + 1) _ (by omega)]
    congr 1
    have : (vs.drop (off + i)).take (n + 1) = vs[off + i] :: (vs.drop (off + (i + 1))).take n := by
      rw [List.drop_eq_getElem_cons hlt]; rfl
    rw [this]
    simp

theorem run_loadCells_row {P : Program} {k : Nat} {vs : List Value} {el : TypeId} {fr : Nat × Nat} {w : World} (h : w.heap[k]? = some (.cells vs.toArray el fr)) (off n : Nat) (hl : off + n ≤ vs.length) :
    (loadCells ⟨k, off, none⟩ n).run P w = .ok ((vs.drop off).take n).toArray w := by
  have := run_loadCellsFrom_row (P := P) h off n 0 #[] (by omega)
  simpa [loadCells] using this

end Ev
namespace Ev
open Go

def cOK : C → Value → Bool
  | .int k n, .int k' n' => decide (k = k') && decide (n = n')
  | .bool b, .bool b' => b == b'
  | .str s, .string x => decide (x.data.toList = s)
  | .ptr none, .pointer none => true
  | .sl _ ⟨none, 0, 0⟩, .slice none 0 0 => true
  | .mp none, .map none => true
  | .fn g, .func (.func g') a b => decide (g = g') && a.isEmpty && b.isEmpty
  | _, _ => false
def csOK : List C → List Value → Bool
  | [], [] => true
  | c :: cs, v :: vs => cOK c v && csOK cs vs
  | _, _ => false
def wOK : W → Value → Bool
  | .one c, v => cOK c v
  | .agg cs, .agg vs => csOK cs vs.toList
  | _, _ => false

theorem cOK_rel {c : C} {v : Value} (h : cOK c v = true) (ρ : Rho) : CRel ρ c v := by
  unfold cOK at h
  split at h <;> simp_all [CRel]
theorem csOK_rel : ∀ {cs : List C} {vs : List Value}, csOK cs vs = true → ∀ ρ, CsRel ρ cs vs
  | [], [], _, _ => trivial
  | c :: cs, v :: vs, h, ρ => by
    simp only [csOK, Bool.and_eq_true] at h
    exact ⟨cOK_rel h.1 ρ, csOK_rel h.2 ρ⟩
  | [], _ :: _, h, _ => by simp [csOK] at h
  | _ :: _, [], h, _ => by simp [csOK] at h
theorem wOK_rel {c : W} {v : Value} (h : wOK c v = true) (ρ : Rho) : WRel ρ c v := by
  cases c with
  | one c => exact cOK_rel h ρ
  | agg cs =>
    cases v <;> simp only [wOK] at h <;> try contradiction
    rename_i vs
    exact ⟨vs.toList, by simp, csOK_rel h ρ⟩

def opdOK : Opd → Operand → Bool
  | .t n, .tmp m => decide (n = m)
  | .c w, .const v => wOK w v
  | .c (.one (.fn g)), .func g' => decide (g = g')
  | _, _ => false
def oopdOK : Option Opd → Option Operand → Bool
  | none, none => true
  | some x, some y => opdOK x y
  | _, _ => false
def opdsOK : List Opd → List Operand → Bool
  | [], [] => true
  | x :: xs, y :: ys => opdOK x y && opdsOK xs ys
  | _, _ => false

def EnvRel (ρ : Rho) (e : Env) (a : Act) : Prop := ∀ t, VRel ρ (e.get t) (a.tmps.getD t undef)

theorem opd_rel {ρ : Rho} {e : Env} {a : Act} (h : EnvRel ρ e a) {x : Opd} {y : Operand} (ok : opdOK x y = true) : VRel ρ (x.ev e) (a.eval y) := by
  cases x with
  | t n =>
    cases y <;> simp only [opdOK] at ok <;> try contradiction
    have ok := of_decide_eq_true ok
    subst ok
    exact h n
  | c w =>
    cases y with
    | const v => exact wOK_rel ok ρ
    | func f =>
      cases w with
      | agg cs => simp [opdOK] at ok
      | one c =>
        cases c with
        | fn g =>
          have ok : g = f := of_decide_eq_true ok
          subst ok
          rfl
        | _ => simp [opdOK] at ok
    | _ => simp [opdOK] at ok

section
variable (P : Program)
def sizeIs (t : TypeId) (n : Nat) : Bool := match P.info? t with
  | some i => decide (i.size = n)
  | none => false
def bytesIs (t : TypeId) (n : Nat) : Bool := match P.info? t with
  | some i => decide (i.bytes = n) && decide (n ≤ 2 ^ 32)
  | none => false
def zeroIs (t : TypeId) (cs : List C) : Bool := match P.info? t with
  | some i => match i.zero with
    | some z => csOK cs z.cells.toList
    | none => false
  | none => false
def aggB (t : TypeId) : Option Bool := match P.underlying t with
  | some (.struct _) => some true
  | some (.array _ _) => some true
  | some _ => some false
  | none => none
def tyOK (t : TypeId) : Ty → Bool
  | .one _ => decide (aggB P t = some false)
  | .agg cs => decide (aggB P t = some true) && sizeIs P t cs.length
def elemIs (t : TypeId) : Option TypeId := match P.underlying t with
  | some (.slice e) => some e
  | _ => none
def slOK (t : TypeId) (es : Nat) : Bool := match elemIs P t with
  | some e => sizeIs P e es
  | none => false
def isStr (t : TypeId) : Bool := match P.underlying t with
  | some .string => true
  | _ => false
/-- A map whose keys are numbers: the type of its values. -/
def mapElem (t : TypeId) : Option TypeId := match P.underlying t with
  | some (.map kt et) => match P.underlying kt with
    | some (.int .i64) => some et
    | _ => none
  | _ => none
def zeroW (t : TypeId) (x : W) : Bool := match P.info? t with
  | some i => match i.zero with
    | some z => wOK x z
    | none => false
  | none => false
def isInt (t : TypeId) (k : IntKind) : Bool := match P.underlying t with
  | some (.int k') => decide (k = k')
  | _ => false
/-- A struct's cells, all of them numbers, bools, texts. -/
def plainCts : Nat → TypeId → Option (List CT)
  | 0, _ => none
  | _ + 1, t => match P.underlying t with
    | some (.int k) => some [.int k]
    | some .bool => some [.bool]
    | some .string => some [.str]
    | _ => none
def fieldsCts (off : Nat) : List Field → Option (List CT)
  | [] => some []
  | f :: r => bif decide (f.offset = off) && decide (f.name ≠ "_") then
      match plainCts P 1 f.type with
      | some [c] => (fieldsCts (off + 1) r).map (c :: ·)
      | _ => none
    else none
/-- A struct in a struct: its cells. -/
def innerCts (t : TypeId) : Option (List CT) := match P.underlying t with
  | some (.struct fs) => bif P.stoodInHeld t then none else fieldsCts P 0 fs.toList
  | _ => none
def fieldsCts1 (off : Nat) : List Field → Option (List CT)
  | [] => some []
  | f :: r => bif decide (f.offset = off) && decide (f.name ≠ "_") then
      match innerCts P f.type with
      | some cs => bif sizeIs P f.type cs.length then (fieldsCts1 (off + cs.length) r).map (cs ++ ·) else none
      | none => match plainCts P 1 f.type with
        | some [c] => (fieldsCts1 (off + 1) r).map (c :: ·)
        | _ => none
    else none
def structCts (t : TypeId) : Option (List CT) := match P.underlying t with
  | some (.struct fs) => bif P.stoodInHeld t || P.eqGuardType P.depth t then none else fieldsCts1 P 0 fs.toList
  | _ => none

def partsOK (place : Nat → Option (Nat × Nat)) : List (Nat × Nat × Opd) → List (Nat × Operand) → Bool
  | [], [] => true
  | (o, n, x) :: r, (i, y) :: s => decide (place i = some (o, n)) && opdOK x y && partsOK place r s
  | _, _ => false
def opOK (fids : Nat → Option FuncId) : AOp → Op → Bool
  | .mv x, .move y => opdOK x y
  | .mv x, .assign y => opdOK x y
  | .pick c a b, .pick c' a' b' => opdOK c c' && opdOK a a' && opdOK b b'
  | .new z, .alloc t => zeroIs P t z
  | .box x, .box _ y => opdOK x y
  | .build z ps, .build t parts =>
    zeroIs P t z && (match P.underlying t with
    | some (.struct fs) => (match fs.toList.mapM (fun f => (P.info? f.type).map fun i => (f.offset, i.size)) with
      | some places => partsOK (places.toArray[·]?) ps parts.toList
      | none => false)
    | some (.array _ e) => (match P.info? e with
      | some j => partsOK (fun i => some (i * j.size, j.size)) ps parts.toList
      | none => false)
    | _ => false)
  | .bslice es len z ps, .buildSlice t len' parts =>
    match elemIs P t with
    | some e => sizeIs P e es && decide (len = len') && decide (len * es ≤ 2 ^ 24) && decide (0 < es) && (match P.info? e with
      | some i => match i.zero with
        | some zz => decide (zz.cells.size = es) && csOK z ((Array.range (len * es)).map (zz.cells[· % zz.cells.size]!)).toList
        | none => false
      | none => false) && partsOK (fun i => some (i * es, es)) ps parts.toList
    | none => false
  | .load ty x, .load t y => opdOK x y && tyOK P t ty
  | .store n a x, .store t b y => opdOK a b && opdOK x y && sizeIs P t n
  | .nilc x, .nilCheck y => opdOK x y
  | .bin op x y, .binOp op' _ x' y' _ => decide (op = op') && opdOK x x' && opdOK y y'
  | .eqb neg x y, .binOp op t x' y' _ => decide (op = (bif neg then .neq else .eql)) && opdOK x x' && opdOK y y' && (match P.underlying t with | some .bool => true | _ => false)
  | .isnil neg x, .binOp op t x' y' _ => decide (op = (bif neg then .neq else .eql)) && opdOK x x' && (match y' with | .const (.pointer none) => true | _ => false) &&
      (match P.underlying t with | some (.pointer _) => true | _ => false)
  | .isnils neg x, .binOp op t x' y' _ => decide (op = (bif neg then .neq else .eql)) && opdOK x x' && (match y' with | .const (.slice none 0 0) => true | _ => false) &&
      (match P.underlying t with | some (.slice _) => true | _ => false)
  | .eqagg neg ts x y, .binOp op t x' y' _ => decide (op = (bif neg then .neq else .eql)) && opdOK x x' && opdOK y y' && decide (structCts P t = some ts)
  | .un op x, .unOp op' _ x' => decide (op = op') && opdOK x x'
  | .conv k x, .convert s d y => opdOK x y && isInt P d k && (P.underlying s).isSome
  | .cstr x, .convert s d y => opdOK x y && isStr P d && (P.underlying s).isSome
  | .b2s x, .convert s d y => opdOK x y && isStr P d && (match elemIs P s with | some e => isInt P e .u8 | none => false)
  | .s2b x, .convert s d y => opdOK x y && isStr P s && (match elemIs P d with | some e => isInt P e .u8 | none => false)
  | .mk es bytes z l c, .makeSlice t l' c' => opdOK l l' && opdOK c c' && decide (0 < es) && decide (z.length = es) && (match elemIs P t with
    | some e => sizeIs P e es && bytesIs P e bytes && zeroIs P e z
    | none => false)
  | .slc es x lo hi mx, .slice t y lo' hi' mx' => opdOK x y && oopdOK lo lo' && oopdOK hi hi' && oopdOK mx mx' && slOK P t es && (mx.isNone || hi.isSome)
  | .slstr x lo hi, .slice t y lo' hi' mx' => opdOK x y && oopdOK lo lo' && oopdOK hi hi' && mx'.isNone && isStr P t
  | .addr off x, .fieldAddr t y f => opdOK x y && (match P.underlying t with
    | some (.struct fs) => match fs[f]? with
      | some fl => decide (fl.offset = off) && (match P.info? fl.type with | some i => decide (i.size ≠ 0) | none => false)
      | none => false
    | _ => false)
  | .field ty off x, .field t y f => opdOK x y && (match P.underlying t with
    | some (.struct fs) => match fs[f]? with
      | some fl => decide (fl.offset = off) && tyOK P fl.type ty
      | none => false
    | _ => false)
  | .idxa es x i, .indexAddr t y j => opdOK x y && opdOK i j && slOK P t es
  | .idxarr es n x i, .indexAddr t y j => opdOK x y && opdOK i j && (match P.underlying t with
    | some (.array m e) => decide (m = n) && sizeIs P e es
    | _ => false)
  | .index x i, .index t y j => opdOK x y && opdOK i j && isStr P t
  | .ext x i, .extract y j => opdOK x y && decide (i = j)
  | .call f args, .call c => (match c.callee with
    | .value (.func g) => decide (fids f = some g) && opdsOK args c.args.toList
    | _ => false)
  | .callv g x f args, .call c => (match c.callee with
    | .value (.tmp n) => decide (fids f = some g) && opdOK x (.tmp n) && opdsOK args c.args.toList
    | _ => false)
  | .callc g _ x f args, .call c => (match c.callee with
    | .value (.tmp n) => decide (fids f = some g) && opdOK x (.tmp n) && opdsOK args c.args.toList
    | _ => false)
  | .len x, .call c => (match c.callee, c.args.toList, c.argTypes[0]? with
    | .builtin .len, y :: _, some t => opdOK x y && (elemIs P t).isSome
    | _, _, _ => false)
  | .lens x, .call c => (match c.callee, c.args.toList, c.argTypes[0]? with
    | .builtin .len, y :: _, some t => opdOK x y && isStr P t
    | _, _, _ => false)
  | .app es bytes s x, .call c => (match c.callee, c.args.toList, c.argTypes.toList with
    | .builtin .append, [y, z], [t, u] => opdOK s y && opdOK x z && decide (0 < es) && (isStr P u || (elemIs P u).isSome) && (match elemIs P t with
      | some e => sizeIs P e es && bytesIs P e bytes && (match P.info? e with
        | some i => (match i.zero with | some zz => decide (zz.cells.size = es) && (zz.cells.all Value.oneC) | none => false)
        | none => false)
      | none => false)
    | _, _, _ => false)
  | .cpy es d s, .call c => (match c.callee, c.args.toList, c.argTypes[0]? with
    | .builtin .copy, [y, z], some t => opdOK d y && opdOK s z && slOK P t es
    | _, _, _ => false)
  | .clr z x, .call c => (match c.callee, c.args.toList, c.argTypes[0]? with
    | .builtin .clear, [y], some t => opdOK x y && decide (0 < z.length) && (match elemIs P t with
      | some e => sizeIs P e z.length && zeroIs P e z
      | none => false)
    | _, _, _ => false)
  | .min xs, .call c => (match c.callee with
    | .builtin .min => opdsOK xs c.args.toList
    | _ => false)
  | .max xs, .call c => (match c.callee with
    | .builtin .max => opdsOK xs c.args.toList
    | _ => false)
  | .mkm, .makeMap _ none => true
  | .mget _ zero ok m i, .lookup t x y ok' => opdOK m x && opdOK i y && decide (ok = ok') && (match mapElem P t with
    | some et => zeroW P et zero
    | none => false)
  | .mset m i x, .mapUpdate t m' i' x' => opdOK m m' && opdOK i i' && opdOK x x' && (mapElem P t).isSome
  | .mset m i x, .insert t m' i' x' => opdOK m m' && opdOK i i' && opdOK x x' && (mapElem P t).isSome
  | .any, .assign _ => true
  | .any, .move _ => true
  | .mkf g xs, .makeFunc fn first captured => (match fn with
    | .func g' => decide (g = g') && first.isEmpty && opdsOK xs captured.toList
    | _ => false)
  | .mdel m i, .call c => (match c.callee, c.args.toList, c.argTypes.toList with
    | .builtin .delete, [y, z], t :: _ => opdOK m y && opdOK i z && (mapElem P t).isSome
    | _, _, _ => false)
  | .mlen m, .call c => (match c.callee, c.args.toList, c.argTypes[0]? with
    | .builtin .len, y :: _, some t => opdOK m y && (mapElem P t).isSome
    | _, _, _ => false)
  | .isnilm neg x, .binOp op t x' y' _ => decide (op = (bif neg then .neq else .eql)) && opdOK x x' && (match y' with | .const (.map none) => true | _ => false) && (mapElem P t).isSome
  | _, _ => false
end
end Ev
namespace Ev
open Go

theorem Ptrs.of_list : ∀ {n : Nat} {ps : List Ptr} {x : Ptrs n}, Ptrs.of n ps = some x → ps = Ptrs.list n x
  | 0, [], _, _ => rfl
  | n + 1, p :: r, x, h => by
    simp only [Ptrs.of] at h
    cases h1 : Ptrs.of n r with
    | none => simp [h1] at h
    | some y =>
      rw [h1] at h
      obtain rfl := Option.some.inj h
      rw [Ptrs.of_list h1]; rfl
  | 0, _ :: _, _, h => by simp [Ptrs.of] at h
  | _ + 1, [], _, h => by simp [Ptrs.of] at h
theorem CT.un_mk {t : CT} {c : C} {x : t.T} (h : t.un c = some x) : c = t.mk x := by
  cases t <;> cases c <;> simp only [CT.un] at h <;> try contradiction
  · rename_i k k' n
    by_cases e : k = k'
    · subst e; simp only [decide_true, cond_true] at h; obtain rfl := Option.some.inj h; rfl
    · simp [e] at h
  · cases h; rfl
  · cases h; rfl
  · cases h; rfl
  · rename_i k k' n
    by_cases e : k = k'
    · subst e; simp only [decide_true, cond_true] at h; obtain rfl := Option.some.inj h; rfl
    · simp [e] at h
  · cases h; rfl
  · rename_i g g'
    by_cases e : g = g'
    · subst e; rfl
    · simp [e] at h
  · rename_i g n g' ps
    by_cases e : g = g'
    · subst e
      rw [decide_eq_true (rfl : g = g)] at h
      show C.clo g ps = C.clo g (Ptrs.list n x)
      rw [Ptrs.of_list (x := x) h]
    · rw [decide_eq_false e] at h; cases h
theorem Tup.un_mk : ∀ {ts : List CT} {cs : List C} {x : Tup ts}, Tup.un ts cs = some x → cs = Tup.mk ts x
  | [], [], _, _ => rfl
  | t :: r, c :: cs, x, h => by
    simp only [Tup.un] at h
    cases h1 : t.un c with
    | none => simp [h1] at h
    | some y =>
      cases h2 : Tup.un r cs with
      | none => simp [h1, h2] at h
      | some z =>
        rw [h1, h2] at h
        obtain rfl := Option.some.inj h
        rw [CT.un_mk h1, Tup.un_mk h2]; rfl
  | [], _ :: _, _, h => by simp [Tup.un] at h
  | _ :: _, [], _, h => by simp [Tup.un] at h
theorem Ty.un_mk : ∀ {t : Ty} {w : W} {x : t.T}, t.un w = some x → w = t.mk x
  | .one c, .one y, x, h => congrArg W.one (CT.un_mk (t := c) (c := y) (x := x) h)
  | .agg c, .agg y, x, h => congrArg W.agg (Tup.un_mk (ts := c) (cs := y) (x := x) h)
  | .one _, .agg _, _, h => by cases h
  | .agg _, .one _, _, h => by cases h
theorem TL.un_mk : ∀ {ts : List Ty} {vs : List V} {x : TL ts}, TL.un ts vs = some x → vs = (TL.mk ts x).map V.w
  | [], [], _, _ => rfl
  | t :: r, c :: cs, x, h => by
    cases c <;> simp only [TL.un] at h <;> try contradiction
    rename_i c
    cases h1 : t.un c with
    | none => simp [h1] at h
    | some y =>
      cases h2 : TL.un r cs with
      | none => simp [h1, h2] at h
      | some z =>
        rw [h1, h2] at h
        obtain rfl := Option.some.inj h
        rw [Ty.un_mk h1, TL.un_mk h2]; rfl
  | [], _ :: _, _, h => by simp [TL.un] at h
  | _ :: _, [], _, h => by simp [TL.un] at h

theorem Option.bind_some_inv {α β : Type} {x : Option α} {f : α → Option β} {r : β} (h : x.bind f = some r) : ∃ y, x = some y ∧ f y = some r := by
  cases x with
  | none => cases h
  | some y => exact ⟨y, rfl, h⟩
theorem cond_some_inv {β : Type} {b : Bool} {x : Option β} {r : β} (h : (bif b then x else none) = some r) : b = true ∧ x = some r := by
  cases b with
  | false => cases h
  | true => exact ⟨rfl, h⟩

section
variable {P : Program} {o : Oper} {a : Act} {w : World} {next : Act → World → Prop} {Q : Exit → Act → World → Prop}

theorem wp_value {v : Value} {w' : World} (h : (execOp a.eval o).run P w = .ok (.value v) w') (hn : next (a.put o.dst v) w') : o.wp P a w next Q := by
  unfold Oper.wp; rw [h]; exact hn
theorem wp_skip' {w' : World} (h : (execOp a.eval o).run P w = .ok .skip w') (hn : next (a.put o.dst undef) w') : o.wp P a w next Q := by
  unfold Oper.wp; rw [h]; exact hn
theorem wp_sem {s : Sem Value} {v : Value} {w' : World} (he : execOp a.eval o = (do pure (Next.value (← s)))) (hs : s.run P w = .ok v w') (hn : next (a.put o.dst v) w') : o.wp P a w next Q :=
  wp_value (by rw [he]; simp [hs, Result.andThen]) hn

theorem run_info {t : TypeId} {i : TypeInfo} (h : P.info? t = some i) : (typeInfo t).run P w = .ok i w := by
  simp [typeInfo, h, program, Sem.run]
theorem run_size {t : TypeId} {n : Nat} (h : sizeIs P t n = true) : (Go.sizeOf t).run P w = .ok n w := by
  unfold sizeIs at h
  cases hi : P.info? t with
  | none => simp [hi] at h
  | some i => simp [hi] at h; simp [Go.sizeOf, run_info hi, h, Result.andThen]
theorem run_isAgg {t : TypeId} {b : Bool} (h : aggB P t = some b) : (isAgg t).run P w = .ok b w := by
  unfold aggB at h
  cases hi : P.underlying t with
  | none => simp [hi] at h
  | some d =>
    simp only [isAgg, Sem.run_bind, run_underlying hi, Result.andThen]
    cases d <;> simp_all
theorem run_zero {t : TypeId} {z : List C} (h : zeroIs P t z = true) : ∃ v, (zeroValue t).run P w = .ok v w ∧ ∀ ρ, CsRel ρ z v.cells.toList := by
  unfold zeroIs at h
  cases hi : P.info? t with
  | none => simp [hi] at h
  | some i =>
    cases hz : i.zero with
    | none => simp [hi, hz] at h
    | some v =>
      simp [hi, hz] at h
      exact ⟨v, by simp [zeroValue, run_info hi, hz, Result.andThen], fun ρ => csOK_rel h ρ⟩

/-- What the evaluator's step gives to what follows. -/
def Goes {R0 : Type} (k : V → Heap → Option R0) (r : R0) (ρ : Rho) (H : Heap) (w : World) (P : Program) (o : Oper) (a : Act) : Prop :=
  ∀ (next : Act → World → Prop) (Q : Exit → Act → World → Prop),
    (∀ v v' H' ρ' w', k v H' = some r → VRel ρ' v v' → R ρ' H' w' → Ext ρ H w ρ' H' w' → next (a.put o.dst v') w') → o.wp P a w next Q

theorem goes_same {R0 : Type} {k : V → Heap → Option R0} {r : R0} {ρ : Rho} {H : Heap} {v : V} {v' : Value} {s : Sem Value}
    (he : execOp a.eval o = (do pure (Next.value (← s)))) (hs : s.run P w = .ok v' w) (hk : k v H = some r) (hv : VRel ρ v v') (hR : R ρ H w) : Goes k r ρ H w P o a :=
  fun _ _ hn => wp_sem he hs (hn _ _ _ _ _ hk hv hR (Ext.refl hR))
theorem goes_same' {R0 : Type} {k : V → Heap → Option R0} {r : R0} {ρ : Rho} {H : Heap} {v : V} {v' : Value}
    (hs : (execOp a.eval o).run P w = .ok (.value v') w) (hk : k v H = some r) (hv : VRel ρ v v') (hR : R ρ H w) : Goes k r ρ H w P o a :=
  fun _ _ hn => wp_value hs (hn _ _ _ _ _ hk hv hR (Ext.refl hR))

variable {R0 : Type} {k : V → Heap → Option R0} {r : R0} {ρ : Rho} {H : Heap} {e : Env} {calls : Nat → Option Callee} {fids : Nat → Option FuncId}

theorem vrel_int {ρ : Rho} {v : V} {x : Value} (h : VRel ρ v x) {kd : IntKind} {n : Int} (hv : v = .w (.one (.int kd n))) : x = .int kd n := by subst hv; exact h
theorem vrel_bool {ρ : Rho} {v : V} {x : Value} (h : VRel ρ v x) {b : Bool} (hv : v = .w (.one (.bool b))) : x = .bool b := by subst hv; exact h
theorem vrel_str {ρ : Rho} {v : V} {x : Value} (h : VRel ρ v x) {b : Bytes} (hv : v = .w (.one (.str b))) : ∃ y : ByteArray, x = .string y ∧ y.data.toList = b := by subst hv; exact h

theorem go_mv (hR : R ρ H w) (he : EnvRel ρ e a) {x : Opd} (ok : opOK P fids (.mv x) o.op = true) (hev : evOp calls (.mv x) e H k = some r) : Goes k r ρ H w P o a := by
  simp only [evOp] at hev
  cases ho : o.op <;> rw [ho] at ok <;> simp only [opOK] at ok <;> try contradiction
  · exact goes_same' (by simp [execOp, ho]) hev (opd_rel he ok) hR
  · exact goes_same' (by simp [execOp, ho]) hev (opd_rel he ok) hR

theorem go_pick (hR : R ρ H w) (he : EnvRel ρ e a) {c x y : Opd} (ok : opOK P fids (.pick c x y) o.op = true) (hev : evOp calls (.pick c x y) e H k = some r) : Goes k r ρ H w P o a := by
  simp only [evOp] at hev
  cases ho : o.op <;> rw [ho] at ok <;> simp only [opOK] at ok <;> try contradiction
  rename_i c' x' y'
  simp only [Bool.and_eq_true] at ok
  obtain ⟨⟨o1, o2⟩, o3⟩ := ok
  have h1 := opd_rel he o1
  split at hev
  · rename_i t ht
    have hb := vrel_bool h1 ht
    cases t
    · exact goes_same' (v' := a.eval y') (by simp [execOp, ho, hb, asBool]) hev (opd_rel he o3) hR
    · exact goes_same' (v' := a.eval x') (by simp [execOp, ho, hb, asBool]) hev (opd_rel he o2) hR
  · contradiction

theorem go_nilc (hR : R ρ H w) (he : EnvRel ρ e a) {x : Opd} (ok : opOK P fids (.nilc x) o.op = true) (hev : evOp calls (.nilc x) e H k = some r) : Goes k r ρ H w P o a := by
  simp only [evOp] at hev
  cases ho : o.op <;> rw [ho] at ok <;> simp only [opOK] at ok <;> try contradiction
  rename_i y
  have h1 := opd_rel he ok
  split at hev
  · rename_i p hp
    cases p with
    | none => simp at hev
    | some b =>
      rw [hp] at h1
      obtain ⟨pl, h2, h3⟩ := (h1 : CRel ρ (.ptr (some b)) _)
      exact goes_same' (v' := a.eval y) (by simp [execOp, ho, h3]) hev ⟨pl, h2, h3⟩ hR
  · contradiction

theorem go_addr (hR : R ρ H w) (he : EnvRel ρ e a) {off : Nat} {x : Opd} (ok : opOK P fids (.addr off x) o.op = true) (hev : evOp calls (.addr off x) e H k = some r) : Goes k r ρ H w P o a := by
  simp only [evOp] at hev
  cases ho : o.op <;> rw [ho] at ok <;> simp only [opOK] at ok <;> try contradiction
  rename_i t y f
  simp only [Bool.and_eq_true] at ok
  obtain ⟨o1, o2⟩ := ok
  have h1 := opd_rel he o1
  split at o2
  · rename_i fs hfs
    split at o2
    · rename_i fl hfl
      split at o2
      · rename_i i hi
        simp only [Bool.and_eq_true, decide_eq_true_eq] at o2
        split at hev
        · rename_i p hp
          cases p with
          | none => simp at hev
          | some b =>
            rw [hp] at h1
            obtain ⟨pl, h2, h3⟩ := (h1 : CRel ρ (.ptr (some b)) _)
            have hz : (Go.sizeOf fl.type).run P w = .ok i.size w := run_size (by simp [sizeIs, hi])
            refine goes_same (s := Instr.fieldAt t (a.eval y) f) (v' := .pointer (some ⟨pl.k, pl.base + (b.2 + off), none⟩)) (by simp [execOp, ho]) ?_ hev ⟨pl, h2, rfl⟩ hR
            simp only [Instr.fieldAt, Sem.run_bind, run_underlying hfs, Result.andThen, hfl, h3, Instr.sureAddr, Sem.run_pure, fieldPlace, hz, o2.2, if_false]
            rw [Addr.add_lit, ← o2.1, Nat.add_assoc]
        · contradiction
      · simp at o2
    · contradiction
  · contradiction

theorem go_ext (hR : R ρ H w) (he : EnvRel ρ e a) {i : Nat} {x : Opd} (ok : opOK P fids (.ext x i) o.op = true) (hev : evOp calls (.ext x i) e H k = some r) : Goes k r ρ H w P o a := by
  simp only [evOp] at hev
  cases ho : o.op <;> rw [ho] at ok <;> simp only [opOK] at ok <;> try contradiction
  rename_i y j
  simp only [Bool.and_eq_true, decide_eq_true_eq] at ok
  obtain ⟨o1, rfl⟩ := ok
  have h1 := opd_rel he o1
  split at hev
  · rename_i ws hws
    obtain ⟨u, hu, hk⟩ := Option.bind_some_inv hev
    rw [hws] at h1
    obtain ⟨vs, h2, h3⟩ := h1
    have hg : ∀ {ws : List W} {vs : List Value} {i : Nat} {u : W}, WsRel ρ ws vs → ws[i]? = some u → ∃ v, vs[i]? = some v ∧ WRel ρ u v := by
      intro ws
      induction ws with
      | nil => intro vs i u _ h; simp at h
      | cons x xs ih =>
        intro vs i u hr h
        cases vs with
        | nil => exact hr.elim
        | cons y ys =>
          cases i with
          | zero => simp at h; subst h; exact ⟨y, by simp, hr.1⟩
          | succ i => simp at h; obtain ⟨v, q1, q2⟩ := ih hr.2 h; exact ⟨v, by simpa using q1, q2⟩
    obtain ⟨v, h4, h5⟩ := hg h3 hu
    exact goes_same (s := Instr.extract (a.eval y) i) (v' := v) (by simp [execOp, ho]) (by simp [Instr.extract, h2, h4]) hk h5 hR
  · contradiction

theorem go_un (hR : R ρ H w) (he : EnvRel ρ e a) {op : UnOp} {x : Opd} (ok : opOK P fids (.un op x) o.op = true) (hev : evOp calls (.un op x) e H k = some r) : Goes k r ρ H w P o a := by
  simp only [evOp] at hev
  cases ho : o.op <;> rw [ho] at ok <;> simp only [opOK] at ok <;> try contradiction
  rename_i op' t y
  simp only [Bool.and_eq_true, decide_eq_true_eq] at ok
  obtain ⟨rfl, o1⟩ := ok
  have h1 := opd_rel he o1
  unfold unV at hev
  split at hev
  · rename_i kd n hx
    have hb := vrel_int h1 hx
    exact goes_same (s := Op.unary .neg (a.eval y)) (by simp [execOp, ho]) (by simp only [hb, Op.unary, Op.intArith, Sem.run_pure]) hev rfl hR
  · rename_i kd n hx
    have hb := vrel_int h1 hx
    exact goes_same (s := Op.unary .xor (a.eval y)) (by simp [execOp, ho]) (by simp only [hb, Op.unary, Op.intBits, Sem.run_pure]; rfl) hev rfl hR
  · rename_i b hx
    have hb := vrel_bool h1 hx
    exact goes_same (s := Op.unary .not (a.eval y)) (by simp [execOp, ho]) (by simp only [hb, Op.unary, Sem.run_pure]) hev rfl hR
  · contradiction

theorem go_conv (hR : R ρ H w) (he : EnvRel ρ e a) {kd : IntKind} {x : Opd} (ok : opOK P fids (.conv kd x) o.op = true) (hev : evOp calls (.conv kd x) e H k = some r) : Goes k r ρ H w P o a := by
  simp only [evOp] at hev
  cases ho : o.op <;> rw [ho] at ok <;> simp only [opOK] at ok <;> try contradiction
  rename_i s d y
  simp only [Bool.and_eq_true] at ok
  obtain ⟨⟨o1, o2⟩, o3⟩ := ok
  have h1 := opd_rel he o1
  split at hev
  · rename_i kd' n hx
    have hb := vrel_int h1 hx
    obtain ⟨ds, hs⟩ := Option.isSome_iff_exists.1 o3
    have hd : P.underlying d = some (.int kd) := by
      unfold isInt at o2; split at o2 <;> simp_all
    exact goes_same (s := convert s d (a.eval y)) (by simp [execOp, ho]) (by simp only [hb, convert, Sem.run_bind, run_underlying hs, run_underlying hd, Result.andThen, Conv.intToInt, Sem.run_pure]) hev rfl hR
  · contradiction

theorem go_cstr (hR : R ρ H w) (he : EnvRel ρ e a) {x : Opd} (ok : opOK P fids (.cstr x) o.op = true) (hev : evOp calls (.cstr x) e H k = some r) : Goes k r ρ H w P o a := by
  simp only [evOp] at hev
  cases ho : o.op <;> rw [ho] at ok <;> simp only [opOK] at ok <;> try contradiction
  rename_i s d y
  simp only [Bool.and_eq_true] at ok
  obtain ⟨⟨o1, o2⟩, o3⟩ := ok
  have h1 := opd_rel he o1
  split at hev
  · rename_i t hx
    obtain ⟨z, hb, hz⟩ := vrel_str h1 hx
    obtain ⟨ds, hs⟩ := Option.isSome_iff_exists.1 o3
    have hd : P.underlying d = some .string := by
      unfold isStr at o2; split at o2 <;> simp_all
    exact goes_same (s := convert s d (a.eval y)) (v' := .string z) (by simp [execOp, ho]) (by simp only [hb, convert, Sem.run_bind, run_underlying hs, run_underlying hd, Result.andThen, Sem.run_pure]) hev ⟨z, rfl, hz⟩ hR
  · contradiction


end
end Ev
namespace Ev
open Go
section
variable {P : Program} {o : Oper} {a : Act} {w : World} {next : Act → World → Prop} {Q : Exit → Act → World → Prop}
variable {R0 : Type} {k : V → Heap → Option R0} {r : R0} {ρ : Rho} {H : Heap} {e : Env} {calls : Nat → Option Callee} {fids : Nat → Option FuncId}

theorem toList_eq (x : ByteArray) : x.toList = x.data.toList := by
  exact (ByteArray.toList_eq x)

theorem go_bin (hR : R ρ H w) (he : EnvRel ρ e a) {op : BinOp} {x y : Opd} (ok : opOK P fids (.bin op x y) o.op = true) (hev : evOp calls (.bin op x y) e H k = some r) : Goes k r ρ H w P o a := by
  simp only [evOp] at hev
  cases ho : o.op <;> rw [ho] at ok <;> simp only [opOK] at ok <;> try contradiction
  rename_i op' t x' y' t'
  simp only [Bool.and_eq_true, decide_eq_true_eq] at ok
  obtain ⟨⟨rfl, o1⟩, o2⟩ := ok
  have h1 := opd_rel he o1
  have h2 := opd_rel he o2
  have hx : execOp a.eval o = (do pure (Next.value (← (do eqGuard op t x' y' (a.eval x') (a.eval y'); binOp op t (a.eval x') (a.eval y'))))) := by simp [execOp, ho]
  unfold binV at hev
  split at hev
  · rename_i kd n kd' m e1 e2
    have b1 := vrel_int h1 e1
    have b2 := vrel_int h2 e2
    rw [b1, b2] at hx
    by_cases hs : op = .shl ∨ op = .shr
    · have hsh : (decide (op = .shl) || decide (op = .shr)) = true := by simpa using hs
      rw [hsh] at hev
      simp only [cond_true] at hev
      unfold shiftI at hev
      by_cases hneg : m < 0
      · simp [hneg] at hev
      · simp only [hneg, decide_false, cond_false] at hev
        rcases hs with rfl | rfl
        · refine goes_same hx ?_ hev rfl hR
          simp only [eqGuard_at_int, binOp, Op.shift, hneg, if_false, Sem.run_bind, Sem.run_pure, Result.andThen]
        · refine goes_same hx ?_ hev rfl hR
          simp only [eqGuard_at_int, binOp, Op.shift, hneg, if_false, Sem.run_bind, Sem.run_pure, Result.andThen]
    · have hsh : (decide (op = .shl) || decide (op = .shr)) = false := by simpa using hs
      rw [hsh] at hev
      simp only [cond_false] at hev
      obtain ⟨hk, hev2⟩ := cond_some_inv hev
      clear hev
      have hk := of_decide_eq_true hk
      subst hk
      unfold binI at hev2
      split at hev2
      · exact goes_same hx (by simp [eqGuard_at_int, go_sem]) hev2 rfl hR
      · exact goes_same hx (by simp [eqGuard_at_int, go_sem]) hev2 rfl hR
      · exact goes_same hx (by simp [eqGuard_at_int, go_sem]) hev2 rfl hR
      · by_cases hz : m = 0
        · simp [hz] at hev2
        · simp only [hz, decide_false, cond_false] at hev2
          exact goes_same hx (by simp [eqGuard_at_int, binOp, Op.intDiv, hz]) hev2 rfl hR
      · by_cases hz : m = 0
        · simp [hz] at hev2
        · simp only [hz, decide_false, cond_false] at hev2
          exact goes_same hx (by simp [eqGuard_at_int, binOp, Op.intDiv, hz]) hev2 rfl hR
      · exact goes_same hx (by simp [eqGuard_at_int, binOp, Op.intBits, bitsI]) hev2 rfl hR
      · exact goes_same hx (by simp [eqGuard_at_int, binOp, Op.intBits, bitsI]) hev2 rfl hR
      · exact goes_same hx (by simp [eqGuard_at_int, binOp, Op.intBits, bitsI]) hev2 rfl hR
      · exact goes_same hx (by simp [eqGuard_at_int, binOp, Op.intBits, bitsI]) hev2 rfl hR
      · exact goes_same hx (v' := .bool (decide (n = m))) (by simp [eqGuard_at_int, binOp, Op.intCmp]; rfl) hev2 rfl hR
      · exact goes_same hx (v' := .bool (!decide (n = m))) (by simp [eqGuard_at_int, binOp, Op.intCmp]; rfl) hev2 rfl hR
      · exact goes_same hx (v' := .bool (decide (n < m))) (by simp only [eqGuard_at_int, binOp_lss, Sem.run_bind, Sem.run_pure, Result.andThen]) hev2 rfl hR
      · exact goes_same hx (v' := .bool (decide (n ≤ m))) (by simp only [eqGuard_at_int, binOp_leq, Sem.run_bind, Sem.run_pure, Result.andThen]) hev2 rfl hR
      · exact goes_same hx (v' := .bool (decide (m < n))) (by simp only [eqGuard_at_int, binOp_gtr, Sem.run_bind, Sem.run_pure, Result.andThen]) hev2 rfl hR
      · exact goes_same hx (v' := .bool (decide (m ≤ n))) (by simp only [eqGuard_at_int, binOp_geq, Sem.run_bind, Sem.run_pure, Result.andThen]) hev2 rfl hR
      · contradiction
  · rename_i s t2 e1 e2
    obtain ⟨z1, b1, q1⟩ := vrel_str h1 e1
    obtain ⟨z2, b2, q2⟩ := vrel_str h2 e2
    rw [b1, b2] at hx
    have l1 : z1.toList = s := by rw [toList_eq, q1]
    have l2 : z2.toList = t2 := by rw [toList_eq, q2]
    unfold binS at hev
    split at hev
    · obtain ⟨u, hu, hk⟩ := Option.bind_some_inv hev
      unfold catS at hu
      obtain ⟨hu1, hu2⟩ := cond_some_inv hu
      have hu1 := of_decide_eq_true hu1
      cases hu2
      have hsz : z1.size + z2.size ≤ 9223372036854775807 := by
        have g1 : z1.size = s.length := by rw [← q1, Array.length_toList]; rfl
        have g2 : z2.size = t2.length := by rw [← q2, Array.length_toList]; rfl
        unfold maxStr at hu1
        omega
      refine goes_same hx (v' := .string (z1 ++ z2)) ?_ hk ⟨_, rfl, ?_⟩ hR
      · simp only [eqGuard_at_string, binOp, Sem.run_bind, Sem.run_pure, Result.andThen]
        exact run_string_add_sum w z1 z2 hsz
      · simp [q1, q2]
    · exact goes_same hx (v' := .bool (decide (s = t2))) (by simp [eqGuard_at_string, binOp, Op.stringOp, l1, l2]; rw [Bool.eq_iff_iff]; simp) hev rfl hR
    · exact goes_same hx (v' := .bool (!decide (s = t2))) (by simp [eqGuard_at_string, binOp, Op.stringOp, l1, l2]; rw [Bool.eq_iff_iff]; simp) hev rfl hR
    · contradiction
  · contradiction

theorem negB_eq (neg b : Bool) : negB neg b = if neg then !b else b := by cases neg <;> rfl

theorem run_eqn {neg : Bool} {t : TypeId} {x y : Value} {b : Bool} (hni : ∀ k a, x ≠ .int k a) (hns : ∀ s, x ≠ .string s) (hnf : ∀ k s, x ≠ .float k s) (hnc : ∀ k s u, x ≠ .complex k s u)
    (h : (Op.equal t x y).run P w = .ok b w) : (binOp (bif neg then .neq else .eql) t x y).run P w = .ok (.bool (negB neg b)) w := by
  cases neg <;> cases x <;> first
    | exact absurd rfl (hni _ _)
    | exact absurd rfl (hns _)
    | exact absurd rfl (hnf _ _)
    | exact absurd rfl (hnc _ _ _)
    | (simp only [cond_true, cond_false]; simp [binOp, h, negB, Result.andThen])

theorem run_ptr_nil (d : Nat) (t el : TypeId) (p : Option Addr) (h : P.underlying t = some (.pointer el)) : (Op.equalIn (d + 1) t (.pointer p) (.pointer none)).run P w = .ok p.isNone w := by
  cases p <;> simp [Op.equalIn, run_underlying h]

theorem go_eqb (hR : R ρ H w) (he : EnvRel ρ e a) {neg : Bool} {x y : Opd} (ok : opOK P fids (.eqb neg x y) o.op = true) (hev : evOp calls (.eqb neg x y) e H k = some r) : Goes k r ρ H w P o a := by
  simp only [evOp] at hev
  cases ho : o.op <;> rw [ho] at ok <;> simp only [opOK] at ok <;> try contradiction
  rename_i op' t x' y' t'
  simp only [Bool.and_eq_true, decide_eq_true_eq] at ok
  obtain ⟨⟨⟨rfl, o1⟩, o2⟩, o3⟩ := ok
  have h1 := opd_rel he o1
  have h2 := opd_rel he o2
  split at hev
  · rename_i b1 b2 e1 e2
    have g1 := vrel_bool h1 e1
    have g2 := vrel_bool h2 e2
    have hu : P.underlying t = some .bool := by split at o3 <;> simp_all
    refine goes_same (s := do eqGuard (bif neg then .neq else .eql) t x' y' (a.eval x') (a.eval y'); binOp (bif neg then .neq else .eql) t (a.eval x') (a.eval y')) (by simp [execOp, ho]) ?_ hev rfl hR
    rw [g1, g2]
    simp only [eqGuard_at_bool, Sem.run_bind, Sem.run_pure, Result.andThen]
    refine run_eqn (by simp) (by simp) (by simp) (by simp) ?_
    exact run_equal_bool w t b1 b2 hu
  · contradiction

theorem go_isnil (hR : R ρ H w) (he : EnvRel ρ e a) {neg : Bool} {x : Opd} (ok : opOK P fids (.isnil neg x) o.op = true) (hev : evOp calls (.isnil neg x) e H k = some r) : Goes k r ρ H w P o a := by
  simp only [evOp] at hev
  cases ho : o.op <;> rw [ho] at ok <;> simp only [opOK] at ok <;> try contradiction
  rename_i op' t x' y' t'
  simp only [Bool.and_eq_true, decide_eq_true_eq] at ok
  obtain ⟨⟨⟨rfl, o1⟩, o2⟩, o3⟩ := ok
  have h1 := opd_rel he o1
  have hy : a.eval y' = .pointer none := by split at o2 <;> simp_all [Act.eval]
  split at o3
  · rename_i el hu
    split at hev
    · rename_i p e1
      rw [e1] at h1
      have hp : ∃ q : Option Addr, a.eval x' = .pointer q ∧ q.isNone = p.isNone := by
        cases p with
        | none => exact ⟨none, h1, rfl⟩
        | some b => obtain ⟨pl, _, h3⟩ := (h1 : CRel ρ (.ptr (some b)) _); exact ⟨_, h3, rfl⟩
      obtain ⟨q, hq, hn⟩ := hp
      refine goes_same (s := do eqGuard (bif neg then .neq else .eql) t x' y' (a.eval x') (a.eval y'); binOp (bif neg then .neq else .eql) t (a.eval x') (a.eval y')) (by simp [execOp, ho]) ?_ hev rfl hR
      rw [hq, hy, ← hn]
      simp only [eqGuard_at_pointer, Sem.run_bind, Sem.run_pure, Result.andThen]
      refine run_eqn (by simp) (by simp) (by simp) (by simp) ?_
      exact run_ptr_nil 9999 t el q hu
    · contradiction
  · contradiction

theorem go_isnils (hR : R ρ H w) (he : EnvRel ρ e a) {neg : Bool} {x : Opd} (ok : opOK P fids (.isnils neg x) o.op = true) (hev : evOp calls (.isnils neg x) e H k = some r) : Goes k r ρ H w P o a := by
  simp only [evOp] at hev
  cases ho : o.op <;> rw [ho] at ok <;> simp only [opOK] at ok <;> try contradiction
  rename_i op' t x' y' t'
  simp only [Bool.and_eq_true, decide_eq_true_eq] at ok
  obtain ⟨⟨⟨rfl, o1⟩, o2⟩, o3⟩ := ok
  have h1 := opd_rel he o1
  have hy : a.eval y' = .slice none 0 0 := by split at o2 <;> simp_all [Act.eval]
  split at o3
  · rename_i el hu
    split at hev
    · rename_i es s e1
      rw [e1] at h1
      have hp : ∃ (q : Option Addr) (l c : Nat), a.eval x' = .slice q l c ∧ q.isNone = s.p.isNone := by
        obtain ⟨p, l, c⟩ := s
        cases p with
        | none => obtain ⟨_, _, h3⟩ := (h1 : CRel ρ (.sl es ⟨none, l, c⟩) _); exact ⟨none, 0, 0, h3, rfl⟩
        | some b => obtain ⟨pl, x, cp, _, h3, _⟩ := (h1 : CRel ρ (.sl es ⟨some b, l, c⟩) _); exact ⟨_, _, _, h3, rfl⟩
      obtain ⟨q, l, c, hq, hn⟩ := hp
      refine goes_same (s := do eqGuard (bif neg then .neq else .eql) t x' y' (a.eval x') (a.eval y'); binOp (bif neg then .neq else .eql) t (a.eval x') (a.eval y')) (by simp [execOp, ho]) ?_ hev rfl hR
      rw [hq, hy, ← hn]
      simp only [eqGuard_at_slice, Sem.run_bind, Sem.run_pure, Result.andThen]
      refine run_eqn (by simp) (by simp) (by simp) (by simp) ?_
      exact run_equal_slice_nil w t el q l c hu
    · contradiction
  · contradiction

end
end Ev
namespace Ev
open Go
section
variable {P : Program} {o : Oper} {a : Act} {w : World} {next : Act → World → Prop} {Q : Exit → Act → World → Prop}
variable {R0 : Type} {k : V → Heap → Option R0} {r : R0} {ρ : Rho} {H : Heap} {e : Env} {calls : Nat → Option Callee} {fids : Nat → Option FuncId}

theorem run_tyOK_agg {t : TypeId} {cs : List CT} (h : tyOK P t (.agg cs) = true) : (isAgg t).run P w = .ok true w ∧ (Go.sizeOf t).run P w = .ok cs.length w := by
  simp only [tyOK, Bool.and_eq_true, decide_eq_true_eq] at h
  exact ⟨run_isAgg h.1, run_size h.2⟩

theorem rd_one {c : CT} {b q : Nat} {v : c.T} (h : rd H (.one c) b q = some v) : ∃ acs bk, H[b]? = some (.cells acs bk) ∧ acs[q]? = some (c.mk v) := by
  unfold rd at h
  obtain ⟨x, h1, h2⟩ := Option.bind_some_inv h
  unfold Heap.cell at h1
  split at h1
  · rename_i acs bk hb
    exact ⟨acs, bk, hb, by rw [h1, CT.un_mk h2]⟩
  · contradiction
theorem row_some {b q n : Nat} {cs : List C} (h : Heap.row H b q n = some cs) : ∃ acs bk, H[b]? = some (.cells acs bk) ∧ q + n ≤ acs.length ∧ cs = (acs.drop q).take n := by
  unfold Heap.row at h
  split at h
  · rename_i acs bk hb
    unfold cut at h
    obtain ⟨h1, h2⟩ := cond_some_inv h
    cases h2
    exact ⟨acs, bk, hb, of_decide_eq_true h1, rfl⟩
  · contradiction

/-- n cells of a block that is known. -/
theorem R.row (hR : R ρ H w) {b q n : Nat} {pl : Pl} {cs : List C} (hρ : ρ b = some pl) (h : Heap.row H b q n = some cs) :
    ∃ (vs : List Value) (el : TypeId) (fr : Nat × Nat), w.heap[pl.k]? = some (.cells vs.toArray el fr) ∧ pl.base + q + n ≤ vs.length ∧ CsRel ρ cs ((vs.drop (pl.base + q)).take n) := by
  obtain ⟨acs, bk, hb, hl, rfl⟩ := row_some h
  obtain ⟨⟨vs, el, fr, h1, h2, h3, _⟩, hlen, hfit, _⟩ := hR.blk b pl acs bk hρ hb
  refine ⟨vs, el, fr, h1, by omega, ?_⟩
  have := (h3.drop q).take n
  rw [List.drop_take, List.drop_drop, List.take_take] at this
  rwa [Nat.min_eq_left (by omega)] at this

theorem go_load (hR : R ρ H w) (he : EnvRel ρ e a) {ty : Ty} {x : Opd} (ok : opOK P fids (.load ty x) o.op = true) (hev : evOp calls (.load ty x) e H k = some r) : Goes k r ρ H w P o a := by
  simp only [evOp] at hev
  cases ho : o.op <;> rw [ho] at ok <;> simp only [opOK] at ok <;> try contradiction
  rename_i t y
  simp only [Bool.and_eq_true] at ok
  obtain ⟨o1, o2⟩ := ok
  have h1 := opd_rel he o1
  split at hev
  · rename_i p hp
    obtain ⟨b, rfl, hev2⟩ := Option.bind_some_inv hev
    clear hev
    obtain ⟨v, hv, hk⟩ := Option.bind_some_inv hev2
    rw [hp] at h1
    obtain ⟨pl, h2, h3⟩ := (h1 : CRel ρ (.ptr (some b)) _)
    cases ty with
    | one c =>
      obtain ⟨acs, bk, hb, hc⟩ := rd_one hv
      obtain ⟨⟨vs, el, fr, g1, g2, g3, _⟩, hlen, hfit, _⟩ := hR.blk _ _ _ _ h2 hb
      obtain ⟨u, g4, g5⟩ := g3.get hc
      have hlt : b.2 < pl.n := by
        rcases Nat.lt_or_ge b.2 acs.length with h | h
        · omega
        · rw [List.getElem?_eq_none h] at hc; cases hc
      have g6 : vs[pl.base + b.2]? = some u := by
        rw [List.getElem?_take_of_lt hlt, List.getElem?_drop] at g4; exact g4
      simp only [tyOK, decide_eq_true_eq] at o2
      refine goes_same (s := Instr.loadAt t (a.eval y)) (v' := u) (by simp [execOp, ho]) ?_ hk g5 hR
      simp only [Instr.loadAt, h3, Instr.sureAddr, Sem.run_bind, Sem.run_pure, Result.andThen, loadVar, run_isAgg o2, Bool.false_eq_true, if_false]
      simp [load, Sem.run, cell?_row g1, g6]
    | agg ts =>
      obtain ⟨cs, hc, hu⟩ := Option.bind_some_inv hv
      obtain ⟨vs, el, fr, g1, g2, g3⟩ := hR.row h2 hc
      obtain ⟨q1, q2⟩ := run_tyOK_agg (w := w) o2
      rw [Tup.un_mk hu] at g3
      refine goes_same (s := Instr.loadAt t (a.eval y)) (v' := .agg ((vs.drop (pl.base + b.2)).take ts.length).toArray) (by simp [execOp, ho]) ?_ hk ⟨_, rfl, g3⟩ hR
      simp only [Instr.loadAt, h3, Instr.sureAddr, Sem.run_bind, Sem.run_pure, Result.andThen, loadVar, q1, if_true, q2, run_loadCells_row g1 _ _ g2]
  · contradiction

theorem storeVar_run {t : TypeId} {n : Nat} {v : Value} {x : W} (hs : sizeIs P t n = true) (hv : WRel ρ x v) (hn : x.cs.length = n) (hR : R ρ H w) {b q : Nat} {pl : Pl} {H' : Heap} (hρ : ρ b = some pl) (hw : wr H b q x.cs = some H') :
    ∃ w', (storeVar t ⟨pl.k, pl.base + q, none⟩ v).run P w = .ok () w' ∧ R ρ H' w' ∧ Ext ρ H w ρ H' w' := by
  have hc := hv.cs
  obtain ⟨vs, el, fr, g1, g2, g3, g4, g5⟩ := hR.store hρ hw hc
  refine ⟨_, ?_, g4, g5⟩
  have hlen : v.cells.size = n := by rw [← hn, hc.length, Array.length_toList]
  simp only [storeVar, Sem.run_bind, run_size hs, Result.andThen, hlen, ne_eq, not_true_eq_false, if_false]
  have := run_storeCells_row (P := P) v.cells.toList (pl.base + q) 0 vs w g1 (by omega) g3 hc.oneC
  exact this

theorem go_store (hR : R ρ H w) (he : EnvRel ρ e a) {n : Nat} {x y : Opd} (ok : opOK P fids (.store n x y) o.op = true) (hev : evOp calls (.store n x y) e H k = some r) : Goes k r ρ H w P o a := by
  simp only [evOp] at hev
  cases ho : o.op <;> rw [ho] at ok <;> simp only [opOK] at ok <;> try contradiction
  rename_i t x' y'
  simp only [Bool.and_eq_true] at ok
  obtain ⟨⟨o1, o2⟩, o3⟩ := ok
  have h1 := opd_rel he o1
  have h2 := opd_rel he o2
  have main : ∀ (p : Ptr) (u : W), x.ev e = .w (.one (.ptr p)) → y.ev e = .w u → u.cs.length = n → (p.bind fun a => (wr H a.1 a.2 u.cs).bind fun H' => k .und H') = some r → Goes k r ρ H w P o a := by
    intro p u e1 e2 hn hk
    obtain ⟨b, rfl, hk2⟩ := Option.bind_some_inv hk
    clear hk
    obtain ⟨H', hw, hk⟩ := Option.bind_some_inv hk2
    rw [e1] at h1
    rw [e2] at h2
    obtain ⟨pl, g1, g2⟩ := (h1 : CRel ρ (.ptr (some b)) _)
    obtain ⟨w', q1, q2, q3⟩ := storeVar_run (P := P) o3 h2 hn hR g1 hw
    intro next Q hnx
    refine wp_skip' (w' := w') ?_ (hnx _ _ _ _ _ hk trivial q2 q3)
    simp [execOp, ho, Instr.storeAt, g2, Instr.sureAddr, q1, Result.andThen]
  split at hev
  · rename_i p c e1 e2
    obtain ⟨hn, hev⟩ := cond_some_inv hev
    exact main p (.one c) e1 e2 (by simpa [W.cs] using (of_decide_eq_true hn).symm) hev
  · rename_i p cs e1 e2
    obtain ⟨hn, hev⟩ := cond_some_inv hev
    exact main p (.agg cs) e1 e2 (by simpa [W.cs] using (of_decide_eq_true hn).symm) hev
  · contradiction

theorem newVar_goes (hR : R ρ H w) {t : TypeId} {cs : List C} {v : Value} {s : Sem Value} (hc : CsRel ρ cs v.cells.toList)
    (hx : execOp a.eval o = (do pure (Next.value (← s)))) (hs : s.run P w = .ok (.pointer (some ⟨w.heap.size, 0, none⟩)) (w.alloc (.cells v.cells t)))
    (hk : k (.w (.one (.ptr (some (H.length, 0))))) (H ++ [.cells cs .exact]) = some r) : Goes k r ρ H w P o a := by
  have hl := hc.length
  obtain ⟨g1, g2⟩ := hR.alloc (w' := w.alloc (.cells v.cells t)) cs .exact v.cells.toList t (0, 0) rfl rfl rfl rfl (by rw [hl, List.take_length]; exact hc) (by omega) (fun _ => hl.symm) (by intro j _ h; exact absurd h (Nat.not_lt_zero _))
  intro next Q hn
  refine wp_sem hx hs (hn _ _ _ _ _ hk ⟨_, Rho.set_same _ _ _, ?_⟩ g1 g2)
  simp

theorem go_new (hR : R ρ H w) {z : List C} (ok : opOK P fids (.new z) o.op = true) (hev : evOp calls (.new z) e H k = some r) : Goes k r ρ H w P o a := by
  simp only [evOp] at hev
  cases ho : o.op <;> rw [ho] at ok <;> simp only [opOK] at ok <;> try contradiction
  rename_i t
  obtain ⟨v, h1, h2⟩ := run_zero (P := P) (w := w) ok
  exact newVar_goes hR (t := t) (h2 ρ) (s := Instr.alloc t true (.tuple #[])) (by simp [execOp, ho]) (by simp [Instr.alloc, h1, Result.andThen, newVar, newRow]) hev

theorem go_box (hR : R ρ H w) (he : EnvRel ρ e a) {x : Opd} (ok : opOK P fids (.box x) o.op = true) (hev : evOp calls (.box x) e H k = some r) : Goes k r ρ H w P o a := by
  simp only [evOp] at hev
  cases ho : o.op <;> rw [ho] at ok <;> simp only [opOK] at ok <;> try contradiction
  rename_i t y
  have h1 := opd_rel he ok
  have main : ∀ u : W, x.ev e = .w u → k (.w (.one (.ptr (some (H.length, 0))))) (H ++ [.cells u.cs .exact]) = some r → Goes k r ρ H w P o a := by
    intro u e1 hk
    rw [e1] at h1
    exact newVar_goes hR (t := t) (WRel.cs h1) (s := Instr.box t (a.eval y)) (by simp [execOp, ho]) (by simp [Instr.box, Result.andThen, newVar, newRow]) hk
  split at hev
  · rename_i c e1; exact main (.one c) e1 hev
  · rename_i cs e1; exact main (.agg cs) e1 hev
  · contradiction

end
end Ev
namespace Ev
open Go
section
variable {P : Program} {o : Oper} {a : Act} {w : World} {next : Act → World → Prop} {Q : Exit → Act → World → Prop}
variable {R0 : Type} {k : V → Heap → Option R0} {r : R0} {ρ : Rho} {H : Heap} {e : Env} {calls : Nat → Option Callee} {fids : Nat → Option FuncId}

theorem slOK_spec {t : TypeId} {es : Nat} (h : slOK P t es = true) : ∃ el, P.underlying t = some (.slice el) ∧ sizeIs P el es = true := by
  unfold slOK elemIs at h
  split at h
  · rename_i el h1
    split at h1
    · rename_i e h2; cases h1; exact ⟨_, h2, h⟩
    · cases h1
  · cases h
theorem elem_spec {t el : TypeId} (h : elemIs P t = some el) : P.underlying t = some (.slice el) := by
  unfold elemIs at h
  split at h
  · rename_i e h2; cases h; exact h2
  · cases h
theorem isStr_spec {t : TypeId} (h : isStr P t = true) : P.underlying t = some .string := by
  unfold isStr at h; split at h <;> simp_all

theorem vrel_sl {v : V} {x : Value} (h : VRel ρ v x) {es : Nat} {s : Sl} (hv : v = .w (.one (.sl es s))) : CRel ρ (.sl es s) x := by subst hv; exact h
theorem vrel_ptr {v : V} {x : Value} (h : VRel ρ v x) {p : Ptr} (hv : v = .w (.one (.ptr p))) : CRel ρ (.ptr p) x := by subst hv; exact h

theorem int?_some {v : V} {f : Int → Option R0} (h : v.int? f = some r) : ∃ kd n, v = .w (.one (.int kd n)) ∧ f n = some r := by
  unfold V.int? at h
  split at h
  · exact ⟨_, _, rfl, h⟩
  · cases h

theorem sl_shape {es : Nat} {s : Sl} {x : Value} (h : CRel ρ (.sl es s) x) : ∃ q c, x = .slice q s.len c ∧ (q.isNone = s.p.isNone) := by
  obtain ⟨p, l, c⟩ := s
  cases p with
  | none => obtain ⟨h1, h2, h3⟩ := h; subst h1; exact ⟨none, 0, h3, rfl⟩
  | some b => obtain ⟨pl, x, cp, _, h3, _⟩ := h; exact ⟨some x, cp, h3, rfl⟩

theorem go_len (hR : R ρ H w) (he : EnvRel ρ e a) {x : Opd} (ok : opOK P fids (.len x) o.op = true) (hev : evOp calls (.len x) e H k = some r) : Goes k r ρ H w P o a := by
  simp only [evOp] at hev
  cases ho : o.op <;> rw [ho] at ok <;> simp only [opOK] at ok <;> try contradiction
  rename_i c
  obtain ⟨callee, args, ats⟩ := c
  simp only at ok
  split at ok
  · rename_i y rest t h2 h3
    simp only [Bool.and_eq_true] at ok
    obtain ⟨o1, o2⟩ := ok
    obtain ⟨el, hel⟩ := Option.isSome_iff_exists.1 o2
    have hu := elem_spec hel
    split at hev
    · rename_i es s e1
      obtain ⟨q, cp, hx, _⟩ := sl_shape (vrel_sl (opd_rel he o1) e1)
      have ha : args = (y :: rest).toArray := by rw [← h2]
      refine goes_same' (v' := .int .i64 (s.len : Int)) ?_ hev rfl hR
      subst ha
      simp [execOp, ho, resolve, invoke, builtin, Builtin.len_, h3, hx, run_underlying hu, Result.andThen, goInt]
    · cases hev
  · cases ok

theorem go_lens (hR : R ρ H w) (he : EnvRel ρ e a) {x : Opd} (ok : opOK P fids (.lens x) o.op = true) (hev : evOp calls (.lens x) e H k = some r) : Goes k r ρ H w P o a := by
  simp only [evOp] at hev
  cases ho : o.op <;> rw [ho] at ok <;> simp only [opOK] at ok <;> try contradiction
  rename_i c
  obtain ⟨callee, args, ats⟩ := c
  simp only at ok
  split at ok
  · rename_i y rest t h2 h3
    simp only [Bool.and_eq_true] at ok
    obtain ⟨o1, o2⟩ := ok
    have hu := isStr_spec o2
    split at hev
    · rename_i s e1
      obtain ⟨z, hx, hz⟩ := vrel_str (opd_rel he o1) e1
      have ha : args = (y :: rest).toArray := by rw [← h2]
      have hl : z.size = s.length := by rw [← hz, Array.length_toList]; rfl
      refine goes_same' (v' := .int .i64 (s.length : Int)) ?_ hev rfl hR
      subst ha
      simp [execOp, ho, resolve, invoke, builtin, Builtin.len_, h3, hx, run_underlying hu, Result.andThen, goInt, hl]
    · cases hev
  · cases ok

theorem go_index (hR : R ρ H w) (he : EnvRel ρ e a) {x i : Opd} (ok : opOK P fids (.index x i) o.op = true) (hev : evOp calls (.index x i) e H k = some r) : Goes k r ρ H w P o a := by
  simp only [evOp] at hev
  cases ho : o.op <;> rw [ho] at ok <;> simp only [opOK] at ok <;> try contradiction
  rename_i t y j
  simp only [Bool.and_eq_true] at ok
  obtain ⟨⟨o1, o2⟩, o3⟩ := ok
  have hu := isStr_spec o3
  split at hev
  · rename_i s e1
    obtain ⟨z, hx, hz⟩ := vrel_str (opd_rel he o1) e1
    obtain ⟨kd, n, e2, hev2⟩ := int?_some hev
    have hi := vrel_int (opd_rel he o2) e2
    obtain ⟨m, h1, hk⟩ := Option.bind_some_inv hev2
    unfold idxS at h1
    obtain ⟨h2, h3⟩ := cond_some_inv h1
    obtain ⟨b, h4, h5⟩ := Option.bind_some_inv h3
    cases h5
    have h2 := of_decide_eq_true h2
    have hg : z[n.toNat]? = some b := by
      rw [← hz] at h4
      rw [Array.getElem?_toList] at h4
      exact h4
    refine goes_same (s := Instr.index t (a.eval y) (a.eval j)) (v' := .int .u8 (b.toNat : Int)) (by simp [execOp, ho]) ?_ hk rfl hR
    simp [Instr.index, hx, hi, run_underlying hu, Result.andThen, asIntOf, h2, hg]
  · cases hev

theorem add_addr (b o n : Nat) : Addr.add ⟨b, o, none⟩ n = ⟨b, o + n, none⟩ := Addr.add_lit b o n

theorem go_idxa (hR : R ρ H w) (he : EnvRel ρ e a) {es : Nat} {x i : Opd} (ok : opOK P fids (.idxa es x i) o.op = true) (hev : evOp calls (.idxa es x i) e H k = some r) : Goes k r ρ H w P o a := by
  simp only [evOp] at hev
  cases ho : o.op <;> rw [ho] at ok <;> simp only [opOK] at ok <;> try contradiction
  rename_i t y j
  simp only [Bool.and_eq_true] at ok
  obtain ⟨⟨o1, o2⟩, o3⟩ := ok
  obtain ⟨el, hu, hsz⟩ := slOK_spec o3
  split at hev
  · rename_i es' s e1
    have hs := vrel_sl (opd_rel he o1) e1
    obtain ⟨hes, hev2⟩ := cond_some_inv hev
    have hes := of_decide_eq_true hes
    subst hes
    obtain ⟨kd, n, e2, hev3⟩ := int?_some hev2
    have hi := vrel_int (opd_rel he o2) e2
    obtain ⟨m, h1, hk⟩ := Option.bind_some_inv hev3
    unfold Sl.at at h1
    obtain ⟨h2, h3⟩ := cond_some_inv h1
    obtain ⟨b, h4, h5⟩ := Option.bind_some_inv h3
    cases h5
    obtain ⟨p, l, c⟩ := s
    simp only at h4
    subst h4
    have hin : 0 ≤ n ∧ n < (l : Int) := of_decide_eq_true h2
    obtain ⟨pl, q, cp, g1, g2, g3⟩ := hs
    obtain ⟨f1, f2, f3, f4, f5⟩ := g3
    rcases f5 with ⟨f5, f6, f7, f8⟩ | ⟨f5, f6⟩
    · obtain ⟨qb, qo, qs⟩ := q
      simp only at f1 f2 f5
      subst f1 f2 f5
      refine goes_same (s := Instr.indexAt t (a.eval y) (a.eval j)) (v' := .pointer (some ⟨pl.k, pl.base + (b.2 + n.toNat * es'), none⟩)) (by simp [execOp, ho]) ?_ hk ⟨pl, g1, rfl⟩ hR
      simp only [Instr.indexAt, g2, hi, asIntOf, run_underlying hu, Sem.run_bind, Sem.run_pure, Result.andThen, if_pos hin, run_size hsz, add_addr, Nat.add_assoc]
    · omega
  · cases hev

theorem go_idxarr (hR : R ρ H w) (he : EnvRel ρ e a) {es n : Nat} {x i : Opd} (ok : opOK P fids (.idxarr es n x i) o.op = true) (hev : evOp calls (.idxarr es n x i) e H k = some r) : Goes k r ρ H w P o a := by
  simp only [evOp] at hev
  cases ho : o.op <;> rw [ho] at ok <;> simp only [opOK] at ok <;> try contradiction
  rename_i t y j
  simp only [Bool.and_eq_true] at ok
  obtain ⟨⟨o1, o2⟩, o3⟩ := ok
  split at o3
  · rename_i m el hu
    simp only [Bool.and_eq_true, decide_eq_true_eq] at o3
    obtain ⟨rfl, hsz⟩ := o3
    split at hev
    · rename_i p e1
      have hs := vrel_ptr (opd_rel he o1) e1
      obtain ⟨b, rfl, hev1⟩ := Option.bind_some_inv hev
      obtain ⟨kd, q, e2, hev3⟩ := int?_some hev1
      have hi := vrel_int (opd_rel he o2) e2
      obtain ⟨c, h1, hk⟩ := Option.bind_some_inv hev3
      unfold arrAt at h1
      obtain ⟨h2, h3⟩ := cond_some_inv h1
      have h2 := of_decide_eq_true h2
      cases h3
      obtain ⟨pl, g1, g2⟩ := hs
      refine goes_same (s := Instr.indexAt t (a.eval y) (a.eval j)) (v' := .pointer (some ⟨pl.k, pl.base + (b.2 + q.toNat * es), none⟩)) (by simp [execOp, ho]) ?_ hk ⟨pl, g1, rfl⟩ hR
      simp only [Instr.indexAt, g2, hi, asIntOf, run_underlying hu, Sem.run_bind, Sem.run_pure, Result.andThen, Instr.sureAddr, if_pos h2, run_size hsz, add_addr, Nat.add_assoc]
    · cases hev
  · cases o3

theorem optI_some {o : Option Opd} {d : Int} {f : Int → Option R0} (h : optI e o d f = some r) : (o = none ∧ f d = some r) ∨ ∃ x kd n, o = some x ∧ x.ev e = .w (.one (.int kd n)) ∧ f n = some r := by
  unfold optI at h
  split at h
  · exact .inl ⟨rfl, h⟩
  · rename_i x
    obtain ⟨kd, n, h1, h2⟩ := int?_some h
    exact .inr ⟨x, kd, n, rfl, h1, h2⟩

/-- A bound of a slice: what it is, on both sides. -/
theorem bound_of (he : EnvRel ρ e a) {lo : Option Opd} {lo' : Option Operand} (ok : oopdOK lo lo' = true) {d : Int} {f : Int → Option R0} (h : optI e lo d f = some r) :
    ∃ l, f l = some r ∧ ((lo' = none ∧ lo = none ∧ l = d) ∨ ∃ y kd, lo' = some y ∧ lo.isSome = true ∧ a.eval y = .int kd l) := by
  rcases optI_some h with ⟨h1, h2⟩ | ⟨x, kd, n, h1, h2, h3⟩
  · subst h1
    cases lo' with
    | none => exact ⟨d, h2, .inl ⟨rfl, rfl, rfl⟩⟩
    | some y => simp [oopdOK] at ok
  · subst h1
    cases lo' with
    | none => simp [oopdOK] at ok
    | some y => exact ⟨n, h3, .inr ⟨y, kd, rfl, rfl, vrel_int (opd_rel he ok) h2⟩⟩

theorem run_sliceBound {x : Value} {kd : IntKind} {i : Int} {y : Nat} {code : BoundsCode} (h : x = .int kd i) (h1 : 0 ≤ i) (h2 : i ≤ (y : Int)) : (Instr.sliceBound x y code).run P w = .ok i.toNat w := by
  subst h
  simp [Instr.sliceBound, asIntOf, h1, h2]

theorem run_bounds {isSlice : Bool} {len cap : Nat} {lo hi mx : Option Value} {l h m : Int} (h0 : 0 ≤ l) (h1 : l ≤ h) (h2 : h ≤ m) (h3 : m ≤ (cap : Int))
    (hl : (lo = none ∧ l = 0) ∨ ∃ kd, lo = some (.int kd l)) (hh : (hi = none ∧ h = (len : Int)) ∨ ∃ kd, hi = some (.int kd h))
    (hm : (mx = none ∧ m = (cap : Int)) ∨ ∃ kd, mx = some (.int kd m)) (hx : mx.isSome = true → hi.isSome = true) :
    (Instr.sliceBounds isSlice len cap lo hi mx).run P w = .ok (l.toNat, h.toNat, m.toNat) w := by
  have hs : ∀ (kd : IntKind) (i : Int) (y : Nat) (code : BoundsCode), 0 ≤ i → i ≤ (y : Int) → (Instr.sliceBound (.int kd i) y code).run P w = .ok i.toNat w := fun kd i y code q1 q2 => run_sliceBound rfl q1 q2
  unfold Instr.sliceBounds
  rcases hm with ⟨rfl, rfl⟩ | ⟨km, rfl⟩ <;> rcases hh with ⟨rfl, rfl⟩ | ⟨kh, rfl⟩ <;> rcases hl with ⟨rfl, rfl⟩ | ⟨kl, rfl⟩ <;>
    first
      | (simp at hx; done)
      | (simp (disch := omega) only [Sem.run_bind, Sem.run_pure, Result.andThen, hs, Int.toNat_natCast]; done)
      | (simp (disch := omega) only [Sem.run_bind, Sem.run_pure, Result.andThen, hs, Int.toNat_natCast]; rfl)

theorem map_of {lo : Option Operand} {l d : Int} (h : (lo = none ∧ l = d) ∨ ∃ y kd, lo = some y ∧ a.eval y = .int kd l) : (lo.map a.eval = none ∧ l = d) ∨ ∃ kd, lo.map a.eval = some (.int kd l) := by
  rcases h with ⟨rfl, rfl⟩ | ⟨y, kd, rfl, h⟩
  · exact .inl ⟨rfl, rfl⟩
  · exact .inr ⟨kd, by simp [h]⟩

theorem go_slstr (hR : R ρ H w) (he : EnvRel ρ e a) {x : Opd} {lo hi : Option Opd} (ok : opOK P fids (.slstr x lo hi) o.op = true) (hev : evOp calls (.slstr x lo hi) e H k = some r) : Goes k r ρ H w P o a := by
  simp only [evOp] at hev
  cases ho : o.op <;> rw [ho] at ok <;> simp only [opOK] at ok <;> try contradiction
  rename_i t y lo' hi' mx'
  simp only [Bool.and_eq_true] at ok
  obtain ⟨⟨⟨⟨o1, o2⟩, o3⟩, o4⟩, o5⟩ := ok
  have hu := isStr_spec o5
  have hmx : mx' = none := by simpa using o4
  subst hmx
  split at hev
  · rename_i s e1
    obtain ⟨z, hx, hz⟩ := vrel_str (opd_rel he o1) e1
    obtain ⟨h, hev1, b1⟩ := bound_of he o3 hev
    obtain ⟨l, hev2, b2⟩ := bound_of he o2 hev1
    obtain ⟨u, h1, hk⟩ := Option.bind_some_inv hev2
    unfold subS at h1
    obtain ⟨h2, h3⟩ := cond_some_inv h1
    obtain ⟨g1, g2, g3⟩ := of_decide_eq_true h2
    cases h3
    have hl : z.size = s.length := by rw [← hz, Array.length_toList]; rfl
    have c1 := map_of (a := a) (lo := hi') (l := h) (d := (s.length : Int)) (by rcases b1 with ⟨q1, _, q2⟩ | ⟨y, kd, q1, _, q2⟩; exact .inl ⟨q1, q2⟩; exact .inr ⟨y, kd, q1, q2⟩)
    have c2 := map_of (a := a) (lo := lo') (l := l) (d := 0) (by rcases b2 with ⟨q1, _, q2⟩ | ⟨y, kd, q1, _, q2⟩; exact .inl ⟨q1, q2⟩; exact .inr ⟨y, kd, q1, q2⟩)
    refine goes_same (s := Instr.sliceAt t (a.eval y) (lo'.map a.eval) (hi'.map a.eval) none) (v' := .string (z.extract l.toNat h.toNat)) (by simp [execOp, ho]) ?_ hk ⟨_, rfl, ?_⟩ hR
    · have hb := run_bounds (P := P) (w := w) (isSlice := false) (len := z.size) (cap := z.size) (mx := none) (m := (z.size : Int)) g1 g2 (by omega) (Int.le_refl _) c2 (by rw [hl]; exact c1) (.inl ⟨rfl, rfl⟩) (by simp)
      simp only [Instr.sliceAt, run_underlying hu, Sem.run_bind, Result.andThen, Instr.slice, hx, Option.isSome_none, Bool.false_eq_true, if_false, hb, Sem.run_pure]
    · rw [← ByteArray.toList_eq, Lib.extract_toList, hz, List.drop_take]
  · cases hev

theorem go_slc (hR : R ρ H w) (he : EnvRel ρ e a) {es : Nat} {x : Opd} {lo hi mx : Option Opd} (ok : opOK P fids (.slc es x lo hi mx) o.op = true) (hev : evOp calls (.slc es x lo hi mx) e H k = some r) : Goes k r ρ H w P o a := by
  simp only [evOp] at hev
  cases ho : o.op <;> rw [ho] at ok <;> simp only [opOK] at ok <;> try contradiction
  rename_i t y lo' hi' mx'
  simp only [Bool.and_eq_true] at ok
  obtain ⟨⟨⟨⟨⟨o1, o2⟩, o3⟩, o4⟩, o5⟩, o6⟩ := ok
  obtain ⟨el, hu, hsz⟩ := slOK_spec o5
  split at hev
  · rename_i es' s e1
    obtain ⟨hes, hev0⟩ := cond_some_inv hev
    have hes := of_decide_eq_true hes
    subst hes
    have hs := vrel_sl (opd_rel he o1) e1
    obtain ⟨m, hev1, b0⟩ := bound_of he o4 hev0
    obtain ⟨h, hev2, b1⟩ := bound_of he o3 hev1
    obtain ⟨l, hev3, b2⟩ := bound_of he o2 hev2
    obtain ⟨u, h1, hk⟩ := Option.bind_some_inv hev3
    unfold Sl.sub at h1
    obtain ⟨h2, h3⟩ := cond_some_inv h1
    obtain ⟨g1, g2, g3, g4⟩ := of_decide_eq_true h2
    cases h3
    obtain ⟨p, len, cap⟩ := s
    simp only at g1 g2 g3 g4 b0 b1 hk
    have c1 := map_of (a := a) (lo := hi') (l := h) (d := (len : Int)) (by rcases b1 with ⟨q1, _, q2⟩ | ⟨y, kd, q1, _, q2⟩; exact .inl ⟨q1, q2⟩; exact .inr ⟨y, kd, q1, q2⟩)
    have c2 := map_of (a := a) (lo := lo') (l := l) (d := 0) (by rcases b2 with ⟨q1, _, q2⟩ | ⟨y, kd, q1, _, q2⟩; exact .inl ⟨q1, q2⟩; exact .inr ⟨y, kd, q1, q2⟩)
    have hsome : (mx'.map a.eval).isSome = true → (hi'.map a.eval).isSome = true := by
      intro hq
      have h6 : hi.isSome = true := by
        rcases b0 with ⟨q1, _, _⟩ | ⟨y, kd, q1, q2, _⟩
        · subst q1; simp at hq
        · cases mx with
          | none => cases q2
          | some _ => simpa using o6
      rcases b1 with ⟨_, q2, _⟩ | ⟨y, kd, q1, _, _⟩
      · subst q2; cases h6
      · subst q1; rfl
    cases p with
    | none =>
      obtain ⟨r1, r2, r3⟩ := hs
      subst r1 r2
      obtain rfl : l = 0 := by omega
      obtain rfl : h = 0 := by omega
      obtain rfl : m = 0 := by omega
      have c0 : (mx'.map a.eval = none ∧ (0 : Int) = ((0 : Nat) : Int)) ∨ ∃ kd, mx'.map a.eval = some (.int kd 0) := by
        rcases b0 with ⟨q1, _, _⟩ | ⟨y, kd, q1, _, q2⟩
        · exact .inl ⟨by simp [q1], rfl⟩
        · exact .inr ⟨kd, by simp [q1, q2]⟩
      have hb := run_bounds (P := P) (w := w) (isSlice := true) (len := 0) (cap := 0) (by omega) (by omega) (by omega) (by omega) c2 c1 c0 hsome
      refine goes_same (s := Instr.sliceAt t (a.eval y) (lo'.map a.eval) (hi'.map a.eval) (mx'.map a.eval)) (v' := .slice none 0 0) (by simp [execOp, ho]) ?_ hk ⟨rfl, rfl, rfl⟩ hR
      simp only [Instr.sliceAt, run_underlying hu, Sem.run_bind, Result.andThen, Instr.slice, r3, hb, run_size hsz, Sem.run_pure]
      rfl
    | some b =>
      obtain ⟨pl, q, cp, q1, q2, f1, f2, f3, f4, f5⟩ := hs
      obtain ⟨qb, qo, qs⟩ := q
      simp only at f1 f2 f5
      subst f1 f2
      -- the real end
      obtain ⟨m', hm', hcm, hcc⟩ : ∃ m' : Int, ((mx'.map a.eval = none ∧ m' = (cp : Int)) ∨ ∃ kd, mx'.map a.eval = some (.int kd m')) ∧ (h ≤ m' ∧ m' ≤ (cp : Int) ∧ m ≤ m') ∧ (m = m' ∨ (m = (cap : Int) ∧ m' = (cp : Int))) := by
        have hcap : cap ≤ cp := by rcases f5 with ⟨_, f6, _⟩ | ⟨f6, f7⟩ <;> omega
        rcases b0 with ⟨r1, _, r2⟩ | ⟨y, kd, r1, _, r2⟩
        · exact ⟨cp, .inl ⟨by simp [r1], rfl⟩, ⟨by omega, by omega, by omega⟩, .inr ⟨r2, rfl⟩⟩
        · exact ⟨m, .inr ⟨kd, by simp [r1, r2]⟩, ⟨g3, by omega, by omega⟩, .inl rfl⟩
      have hb := run_bounds (P := P) (w := w) (isSlice := true) (len := len) (cap := cp) g1 g2 hcm.1 hcm.2.1 c2 c1 hm' hsome
      refine goes_same (s := Instr.sliceAt t (a.eval y) (lo'.map a.eval) (hi'.map a.eval) (mx'.map a.eval))
        (v' := .slice (if m'.toNat = l.toNat then some ⟨pl.k, qo, none⟩ else some ⟨pl.k, qo + l.toNat * es', none⟩) (h.toNat - l.toNat) (m'.toNat - l.toNat)) (by simp [execOp, ho]) ?_ hk ?_ hR
      · simp only [Instr.sliceAt, run_underlying hu, Sem.run_bind, Result.andThen, Instr.slice, q2, hb, run_size hsz, Sem.run_pure, Option.map_some, add_addr]
      · have hml : l.toNat ≤ m.toNat := by omega
        have hmm : m.toNat ≤ m'.toNat := by omega
        have hmc : m.toNat ≤ cap := by omega
        have e1 : l.toNat * es' + (m.toNat - l.toNat) * es' = m.toNat * es' := by rw [← Nat.add_mul]; congr 1; omega
        have e2 : l.toNat * es' + (m'.toNat - l.toNat) * es' = m'.toNat * es' := by rw [← Nat.add_mul]; congr 1; omega
        have e3 : m.toNat * es' ≤ cap * es' := Nat.mul_le_mul_right _ hmc
        have e4 : m'.toNat * es' ≤ cp * es' := Nat.mul_le_mul_right _ (by omega)
        show CRel ρ (.sl es' ⟨some (b.1, b.2 + l.toNat * es'), h.toNat - l.toNat, m.toNat - l.toNat⟩) _
        rcases f5 with ⟨f5, f6, f7, f8⟩ | ⟨f5, f6⟩
        · by_cases hz : m'.toNat = l.toNat
          · rw [if_pos hz]
            exact ⟨pl, _, _, q1, rfl, rfl, rfl, by omega, by omega, .inr ⟨by omega, by omega⟩⟩
          · rw [if_neg hz]
            refine ⟨pl, _, _, q1, rfl, rfl, rfl, by omega, by omega, .inl ⟨by simp only; omega, by omega, ?_, by omega⟩⟩
            rcases hcc with hcc | ⟨hc1, hc2⟩
            · exact .inl (by omega)
            · rcases f7 with f7 | ⟨f7, f9⟩
              · exact .inl (by omega)
              · have : m.toNat = cap := by omega
                exact .inr ⟨f7, by rw [Nat.add_assoc, e1, this]; exact f9⟩
        · have : m'.toNat = l.toNat := by omega
          rw [if_pos this]
          exact ⟨pl, _, _, q1, rfl, rfl, rfl, by omega, by omega, .inr ⟨by omega, by omega⟩⟩
  · cases hev

end
end Ev
namespace Ev
open Go
section
variable {P : Program} {o : Oper} {a : Act} {w : World} {next : Act → World → Prop} {Q : Exit → Act → World → Prop}
variable {R0 : Type} {k : V → Heap → Option R0} {r : R0} {ρ : Rho} {H : Heap} {e : Env} {calls : Nat → Option Callee} {fids : Nat → Option FuncId}

theorem isInt_spec {t : TypeId} {kd : IntKind} (h : isInt P t kd = true) : P.underlying t = some (.int kd) := by
  unfold isInt at h; split at h <;> simp_all

/-- The cells of a slice. -/
theorem R.slice (hR : R ρ H w) {es : Nat} {s : Sl} {x : Value} {cs : List C} (hs : CRel ρ (.sl es s) x) (h : slRow H es s = some cs) :
    ∃ (q : Option Addr) (c : Nat) (vs : List Value), x = .slice q s.len c ∧ CsRel ρ cs vs ∧ vs.length = s.len * es ∧
      ((q = none ∧ vs = []) ∨ ∃ b, q = some b ∧ ∀ w' : World, w'.heap = w.heap → (loadCells b (s.len * es)).run P w' = .ok vs.toArray w') := by
  obtain ⟨p, l, c⟩ := s
  cases p with
  | none =>
    obtain ⟨h1, h2, h3⟩ := hs
    subst h1
    cases h
    exact ⟨none, 0, [], h3, trivial, by simp, .inl ⟨rfl, rfl⟩⟩
  | some b =>
    obtain ⟨pl, q, cp, g1, g2, f1, f2, f3, f4, f5⟩ := hs
    have h : H.row b.1 b.2 (l * es) = some cs := h
    obtain ⟨qb, qo, qs⟩ := q
    simp only at f1 f2 f5
    subst f1 f2
    rcases f5 with ⟨f5, _⟩ | ⟨f5, f6⟩
    · subst f5
      obtain ⟨vs, el, fr, q1, q2, q3⟩ := hR.row g1 h
      have q4 : ∀ w' : World, w'.heap = w.heap → (loadCells ⟨pl.k, pl.base + b.2, none⟩ (l * es)).run P w' = .ok ((vs.drop (pl.base + b.2)).take (l * es)).toArray w' :=
        fun w' hw => run_loadCells_row (P := P) (w := w') (by rw [hw]; exact q1) (pl.base + b.2) (l * es) q2
      have q5 := q3.length
      refine ⟨_, cp, _, g2, q3, ?_, .inr ⟨_, rfl, q4⟩⟩
      simp only [List.length_take, List.length_drop]
      omega
    · have hl : l = 0 := by omega
      subst hl
      have h0 : cs = [] := by
        obtain ⟨acs, bk, _, _, rfl⟩ := row_some h
        simp
      subst h0
      exact ⟨_, cp, [], g2, trivial, by simp, .inr ⟨_, rfl, fun w' _ => by simp [loadCells, loadCellsFrom]⟩⟩

theorem bytes_cells {ρ : Rho} : ∀ {cs : List C} {vs : List Value} {t : Bytes}, CsRel ρ cs vs → bytesOf cs = some t → ∃ ns : List Int, vs = ns.map (Value.int .u8) ∧ ns.map (fun n => UInt8.ofNat n.toNat) = t
  | [], [], t, _, h => by cases h; exact ⟨[], rfl, rfl⟩
  | c :: cs, v :: vs, t, ⟨h1, h2⟩, h => by
    unfold bytesOf at h
    split at h
    · rename_i q; cases q
    · rename_i n r heq
      cases heq
      obtain ⟨u, h3, h4⟩ := Option.bind_some_inv h
      cases h4
      obtain ⟨ns, h5, h6⟩ := bytes_cells h2 h3
      exact ⟨n :: ns, by rw [h5]; simp only [List.map_cons]; rw [← (h1 : v = .int .u8 n)], by simp [h6]⟩
    · cases h
  | [], _ :: _, _, h, _ => h.elim
  | _ :: _, [], _, h, _ => h.elim

theorem foldl_push_map : ∀ (ns : List Int) (r : ByteArray), (ns.foldl (fun r n => r.push (UInt8.ofNat n.toNat)) r).data.toList = r.data.toList ++ ns.map (fun n => UInt8.ofNat n.toNat)
  | [], r => by simp
  | n :: ns, r => by
    simp only [List.foldl_cons, List.map_cons]
    rw [foldl_push_map ns]
    simp [ByteArray.push]

theorem go_b2s (hR : R ρ H w) (he : EnvRel ρ e a) {x : Opd} (ok : opOK P fids (.b2s x) o.op = true) (hev : evOp calls (.b2s x) e H k = some r) : Goes k r ρ H w P o a := by
  simp only [evOp] at hev
  cases ho : o.op <;> rw [ho] at ok <;> simp only [opOK] at ok <;> try contradiction
  rename_i s d y
  simp only [Bool.and_eq_true] at ok
  obtain ⟨⟨o1, o2⟩, o3⟩ := ok
  split at o3
  · rename_i el hel
    have hu := elem_spec hel
    have hd := isStr_spec o2
    have h8 := isInt_spec o3
    split at hev
    · rename_i es sl e1
      obtain ⟨hes, hev2⟩ := cond_some_inv hev
      have hes := of_decide_eq_true hes
      subst hes
      obtain ⟨t, h1, hk⟩ := Option.bind_some_inv hev2
      obtain ⟨cs, h2, h3⟩ := Option.bind_some_inv h1
      obtain ⟨q, c, vs, g1, g2, g3, g4⟩ := R.slice (P := P) hR (vrel_sl (opd_rel he o1) e1) h2
      obtain ⟨ns, n1, n2⟩ := bytes_cells g2 h3
      rcases g4 with ⟨rfl, rfl⟩ | ⟨b, rfl, g4⟩
      · have : t = [] := by cases ns with | nil => simpa using n2.symm | cons _ _ => cases n1
        subst this
        refine goes_same (s := convert s d (a.eval y)) (v' := .string .empty) (by simp [execOp, ho]) ?_ hk ⟨_, rfl, rfl⟩ hR
        rw [g1, run_convert_bytes_string w s d el none _ _ hu h8 hd]
        rfl
      · refine goes_same (s := convert s d (a.eval y)) (v' := .string (ns.foldl (fun r n => r.push (UInt8.ofNat n.toNat)) ByteArray.empty)) (by simp [execOp, ho]) ?_ hk ⟨_, rfl, ?_⟩ hR
        · rw [g1, run_convert_bytes_string w s d el (some b) _ _ hu h8 hd]
          refine run_bytesToString w b _ _ ns ?_
          rw [Nat.mul_one] at g4
          rw [g4 w rfl, n1]
        · rw [foldl_push_map, n2]; rfl
    · cases hev
  · cases o3

def byteV (s : Bytes) : List Value := s.map fun b : UInt8 => Value.int .u8 (b.toNat : Int)
theorem byteV_length (s : Bytes) : (byteV s).length = s.length := by simp [byteV]
theorem cellsOf_rel {ρ : Rho} : ∀ (s : Bytes), CsRel ρ (cellsOf s) (byteV s)
  | [] => trivial
  | _ :: s => ⟨rfl, cellsOf_rel s⟩

theorem go_s2b (hR : R ρ H w) (he : EnvRel ρ e a) {x : Opd} (ok : opOK P fids (.s2b x) o.op = true) (hev : evOp calls (.s2b x) e H k = some r) : Goes k r ρ H w P o a := by
  simp only [evOp] at hev
  cases ho : o.op <;> rw [ho] at ok <;> simp only [opOK] at ok <;> try contradiction
  rename_i s d y
  simp only [Bool.and_eq_true] at ok
  obtain ⟨⟨o1, o2⟩, o3⟩ := ok
  split at o3
  · rename_i el hel
    have hu := elem_spec hel
    have hs := isStr_spec o2
    have h8 := isInt_spec o3
    split at hev
    · rename_i t e1
      obtain ⟨z, hx, hz⟩ := vrel_str (opd_rel he o1) e1
      have hl : z.size = t.length := by rw [← hz, Array.length_toList]; rfl
      have hrun := run_bytes_of_string (P := P) w s d el z hs hu h8
      have hcap : z.size ≤ grownCap w z.size 0 el := by unfold grownCap Question.cut; simp only; omega
      generalize hg : grownCap w z.size 0 el = cp at hrun hcap
      have hrow : bytesRow z cp = (byteV t ++ List.replicate (cp - z.size) (Value.int .u8 0)).toArray := by
        apply Array.ext'
        simp [bytesRow, ← hz, byteV]
      have hlen : (byteV t ++ List.replicate (cp - z.size) (Value.int .u8 0)).length = cp := by
        simp [byteV_length]; omega
      have hc : (cellsOf t).length = t.length := by simp [cellsOf]
      obtain ⟨g1, g2⟩ := hR.alloc (w' := w.drew.alloc (.cells (bytesRow z cp) el ((bytesRow z cp).size, (bytesRow z cp).size + 1))) (cellsOf t) .loose
        (byteV t ++ List.replicate (cp - z.size) (Value.int .u8 0)) el ((bytesRow z cp).size, (bytesRow z cp).size + 1)
        (by rw [← hrow]; rfl) rfl rfl rfl
        (by rw [hc, List.take_left' (byteV_length t)]; exact cellsOf_rel t) (by rw [hlen, hc]; omega) (by simp)
        (by intro j h1 _; rw [hrow] at h1; simpa using h1)
      intro next Q hn
      refine wp_sem (s := convert s d (a.eval y)) (by simp [execOp, ho]) (by rw [hx]; exact hrun) (hn _ _ _ _ _ hev ⟨_, _, _, Rho.set_same _ _ _, by rw [hl], ?_⟩ g1 g2)
      refine ⟨rfl, rfl, Nat.le_refl _, by simp [hc], .inl ⟨by simp, by omega, .inr ⟨by simp, by simp [hc]⟩, by simp only; rw [hlen]; omega⟩⟩
    · cases hev
  · cases o3

theorem rep_length (z : List C) : ∀ n, (rep n z).length = n * z.length
  | 0 => by simp [rep]
  | n + 1 => by
    have := rep_length z n
    simp only [rep, List.replicate_succ, List.flatten_cons, List.length_append] at this ⊢
    rw [this, Nat.add_mul]; omega

theorem rep_rel {ρ : Rho} {z : List C} {zs : List Value} (h : CsRel ρ z zs) : ∀ n, CsRel ρ (rep n z) (List.replicate n zs).flatten
  | 0 => by simp [rep, CsRel]
  | n + 1 => by
    have := rep_rel h n
    simp only [rep, List.replicate_succ, List.flatten_cons] at this ⊢
    exact h.append this

theorem flat_get (zs : List Value) : ∀ (n j : Nat), j < n * zs.length → (List.replicate n zs).flatten[j]? = zs[j % zs.length]?
  | 0, j, h => by simp at h
  | n + 1, j, h => by
    simp only [List.replicate_succ, List.flatten_cons]
    by_cases hj : j < zs.length
    · rw [List.getElem?_append_left hj, Nat.mod_eq_of_lt hj]
    · rw [Nat.succ_mul] at h
      rw [List.getElem?_append_right (by omega), flat_get zs n (j - zs.length) (by omega)]
      rw [← Nat.mod_eq_sub_mod (by omega)]

theorem range_zero (zs : Array Value) (n : Nat) (h : 0 < zs.size) : ((Array.range (n * zs.size)).map (zs[· % zs.size]!)).toList = (List.replicate n zs.toList).flatten := by
  apply List.ext_getElem?
  intro j
  by_cases hj : j < n * zs.size
  · rw [flat_get _ _ _ (by simpa using hj)]
    have hm : j % zs.size < zs.size := Nat.mod_lt _ h
    simp [hj, hm]
  · rw [List.getElem?_eq_none, List.getElem?_eq_none]
    · simp only [List.length_flatten, List.map_replicate, List.sum_replicate_nat, Array.length_toList]; omega
    · simp; omega

theorem go_mk (hR : R ρ H w) (he : EnvRel ρ e a) {es bytes : Nat} {z : List C} {l c : Opd} (ok : opOK P fids (.mk es bytes z l c) o.op = true) (hev : evOp calls (.mk es bytes z l c) e H k = some r) : Goes k r ρ H w P o a := by
  simp only [evOp] at hev
  cases ho : o.op <;> rw [ho] at ok <;> simp only [opOK] at ok <;> try contradiction
  rename_i t y y'
  simp only [Bool.and_eq_true, decide_eq_true_eq] at ok
  obtain ⟨⟨⟨⟨o1, o2⟩, o3⟩, o4⟩, o5⟩ := ok
  split at o5
  · rename_i el hel
    simp only [Bool.and_eq_true] at o5
    obtain ⟨⟨q1, q2⟩, q3⟩ := o5
    have hu := elem_spec hel
    obtain ⟨k1, l, e1, hev1⟩ := int?_some hev
    obtain ⟨k2, c, e2, hev2⟩ := int?_some hev1
    have b1 := vrel_int (opd_rel he o1) e1
    have b2 := vrel_int (opd_rel he o2) e2
    obtain ⟨p, h1, hk⟩ := Option.bind_some_inv hev2
    unfold mkS at h1
    obtain ⟨h2, h3⟩ := cond_some_inv h1
    obtain ⟨g1, g2, g3, g4⟩ := of_decide_eq_true h2
    cases h3
    -- the type's row
    unfold sizeIs at q1
    unfold bytesIs at q2
    unfold zeroIs at q3
    cases hi : P.info? el with
    | none => simp [hi] at q1
    | some i =>
      simp only [hi, decide_eq_true_eq, Bool.and_eq_true] at q1 q2 q3
      cases hz : i.zero with
      | none => simp [hz] at q3
      | some zz =>
        simp only [hz] at q3
        have hzr := csOK_rel q3 ρ
        have hzl := hzr.length
        have hzs : zz.cells.size = es := by rw [← o4, hzl]; simp
        have hb : (i.bytes : Int) * c ≤ 281474976710656 := by
          unfold maxRow at g3
          have : ((c.toNat * bytes : Nat) : Int) ≤ 2 ^ 45 := by exact_mod_cast g3
          rw [q2.1]
          have hc : (c.toNat : Int) = c := by omega
          rw [Int.natCast_mul, hc, Int.mul_comm] at this
          omega
        have hrun := run_make (P := P) w t el i zz hu hi hz k1 k2 l c g1 g2 hb (by unfold maxRow at g4; omega)
        have hmade : madeCells zz.cells (c.toNat * i.size) = ((List.replicate c.toNat zz.cells.toList).flatten).toArray := by
          apply Array.ext'
          rw [q1, ← hzs]
          simp only [madeCells]
          rw [range_zero _ _ (by omega)]
        have hfl : ((List.replicate c.toNat zz.cells.toList).flatten).length = c.toNat * es := by
          simp only [List.length_flatten, List.map_replicate, List.sum_replicate_nat, Array.length_toList, hzs]
        have hrl : (rep c.toNat z).length = c.toNat * es := by rw [rep_length, o4]
        obtain ⟨r1, r2⟩ := hR.alloc (w' := w.alloc (.cells (madeCells zz.cells (c.toNat * i.size)) el)) (rep c.toNat z) .exact ((List.replicate c.toNat zz.cells.toList).flatten) el (0, 0)
          (by rw [← hmade]; rfl) rfl rfl rfl (by rw [hrl, ← hfl, List.take_length]; exact rep_rel hzr _) (by rw [hrl, hfl]; exact Nat.le_refl _) (fun _ => by rw [hrl, hfl]) (by intro j _ h; exact absurd h (Nat.not_lt_zero _))
        intro next Q hn
        refine wp_sem (s := Instr.makeSlice t (a.eval y) (a.eval y')) (by simp [execOp, ho]) (by rw [b1, b2]; exact hrun) (hn _ _ _ _ _ hk ⟨_, _, _, Rho.set_same _ _ _, rfl, ?_⟩ r1 r2)
        refine ⟨rfl, rfl, by omega, by simp [hrl], .inl ⟨by simp, Nat.le_refl _, .inl rfl, by simp [hfl]⟩⟩
  · cases o5

end
end Ev
namespace Ev
open Go

def HeapKill (H H1 : Heap) : Prop := H1 = H ∨ ∃ (b : Nat) (cs : List C), H[b]? = some (Blk.cells cs .loose) ∧ H1 = List.set H b Blk.dead
theorem HeapKill.length {H H1 : Heap} (h : HeapKill H H1) : H1.length = H.length := by
  rcases h with rfl | ⟨b, cs, _, rfl⟩
  · rfl
  · simp
theorem HeapKill.get {H H1 : Heap} (h : HeapKill H H1) {b : Nat} {cs : List C} {bk : BK} (hb : H1[b]? = some (Blk.cells cs bk)) : H[b]? = some (Blk.cells cs bk) := by
  rcases h with rfl | ⟨b0, cs0, h0, rfl⟩
  · exact hb
  · by_cases e : b = b0
    · subst e
      have hl : b < H.length := (List.getElem?_eq_some_iff.1 h0).1
      rw [List.getElem?_set_self hl] at hb; cases hb
    · rwa [List.getElem?_set_ne (Ne.symm e)] at hb
theorem HeapKill.mp {H H1 : Heap} (h : HeapKill H H1) {b : Nat} {es : MEs} {ck : Nat} (hb : H1[b]? = some (Blk.mp es ck)) : H[b]? = some (Blk.mp es ck) := by
  rcases h with rfl | ⟨b0, cs0, h0, rfl⟩
  · exact hb
  · by_cases e : b = b0
    · subst e
      have hl : b < H.length := (List.getElem?_eq_some_iff.1 h0).1
      rw [List.getElem?_set_self hl] at hb; cases hb
    · rwa [List.getElem?_set_ne (Ne.symm e)] at hb
theorem HeapKill.mp' {H H1 : Heap} (h : HeapKill H H1) {b : Nat} {es : MEs} {ck : Nat} (hb : H[b]? = some (Blk.mp es ck)) : H1[b]? = some (Blk.mp es ck) := by
  rcases h with rfl | ⟨b0, cs0, h0, rfl⟩
  · exact hb
  · by_cases e : b0 = b
    · subst e; rw [h0] at hb; cases hb
    · rwa [List.getElem?_set_ne e]
theorem HeapKill.wrB {H H1 : Heap} (h : HeapKill H H1) {b : Nat} (hb : wrB H1 b) : wrB H b := by
  rcases hb with ⟨cs, bk, h1, h2⟩ | ⟨es, ck, h1⟩
  · exact .inl ⟨cs, bk, h.get h1, h2⟩
  · exact .inr ⟨es, ck, h.mp h1⟩

theorem growKill_spec {H H1 : Heap} {es : Nat} {s : Sl} (h : growKill H es s = some H1) : HeapKill H H1 := by
  unfold growKill at h
  split at h
  · cases h; exact .inl rfl
  · rename_i a ha
    split at h
    · rename_i cs hb
      by_cases e : a.2 + s.cap * es = cs.length
      · simp [e] at h; exact .inr ⟨a.1, cs, hb, h.symm⟩
      · simp [e] at h; exact .inl h.symm
    · rename_i cs hb
      by_cases e : a.2 + s.cap * es = cs.length
      · simp [e] at h
      · simp [e] at h; exact .inl h.symm
    · cases h; exact .inl rfl
    · cases h

theorem R.kill {ρ : Rho} {H H1 : Heap} {w : World} (r : R ρ H w) (h : HeapKill H H1) : R ρ H1 w :=
  ⟨fun b pl hb => by rw [h.length]; exact r.dom b pl hb, fun b pl acs bk h1 h2 => r.blk b pl acs bk h1 (h.get h2),
    fun b b' pl pl' a a' k k' hne h1 h1' h2 h2' hr => r.sep b b' pl pl' a a' k k' hne h1 h1' (h.get h2) (h.get h2') hr, fun b pl es ck h1 h2 => r.mp b pl es ck h1 (h.mp h2), fun b b' pl pl' es es' ck ck' hne h1 h1' h2 h2' => r.sepm b b' pl pl' es es' ck ck' hne h1 h1' (h.mp h2) (h.mp h2')⟩

theorem Ext.kill {ρ ρ' : Rho} {H H1 H' : Heap} {w w' : World} (h : HeapKill H H1) (x : Ext ρ H1 w ρ' H' w') : Ext ρ H w ρ' H' w' where
  le := x.le
  len := by rw [← h.length]; exact x.len
  new := fun b pl h1 h2 => by
    obtain ⟨g1, g2⟩ := x.new b pl h1 h2
    rw [h.length] at g1
    refine ⟨g1, g2.imp id ?_⟩
    rintro ⟨b0, pl0, q1, q2, q3⟩
    exact ⟨b0, pl0, q1, h.wrB q2, q3⟩
  wr := fun b hb hw => h.wrB (x.wr b (by rw [h.length]; exact hb) hw)
  size := x.size
  os := x.os
  tape := x.tape
  output := x.output
  frame := fun j hj hno => x.frame j hj fun b pl h1 h2 h3 => hno b pl h1 h2 (h.wrB h3)
  maps := fun b pl es dc h1 h2 => x.maps b pl es dc h1 (h.mp' h2)

theorem setV_end : ∀ (us l : List Value) (o : Nat), o + us.length = l.length → setV l o us = l.take o ++ us
  | [], l, o, h => by simp at h; subst h; simp [setV]
  | u :: r, l, o, h => by
    simp at h
    have ho : o < l.length := by omega
    simp only [setV]
    rw [setV_end r (l.set o u) (o + 1) (by simp; omega)]
    have : (l.set o u).take (o + 1) = l.take o ++ [u] := by
      rw [List.take_succ_eq_append_getElem (by simpa using ho), List.take_set, List.getElem_set_self]
      congr 1
      exact List.set_eq_of_length_le (by simp; omega)
    rw [this]
    simp

/-- The block b, loose, grows where it lies. -/
theorem R.regrow' {ρ : Rho} {H : Heap} {w : World} (r : R ρ H w) {b o m : Nat} {pl : Pl} {cs old new : List C} {news : List Value} (hρ : ρ b = some pl) (hb : H[b]? = some (Blk.cells cs .loose))
    (hold : H.row b o m = some old) (hnew : CsRel ρ new news) (hfit : pl.base + o + m + news.length ≤ pl.n2) :
    ∃ vs el fr, w.heap[pl.k]? = some (.cells vs.toArray el fr) ∧ vs.length = pl.n2 ∧ (∀ j, fr.1 ≤ j → j < fr.2 → vs.length ≤ j) ∧
      R (ρ.set H.length ⟨pl.k, pl.base + o, (old ++ new).length, pl.n2, true⟩) (List.set H b Blk.dead ++ [Blk.cells (old ++ new) .loose]) (putRow w pl.k (.cells (setV vs (pl.base + o + m) news).toArray el fr)) ∧
      Ext ρ H w (ρ.set H.length ⟨pl.k, pl.base + o, (old ++ new).length, pl.n2, true⟩) (List.set H b Blk.dead ++ [Blk.cells (old ++ new) .loose]) (putRow w pl.k (.cells (setV vs (pl.base + o + m) news).toArray el fr)) := by
  have q := r.blk b pl cs .loose hρ hb
  obtain ⟨⟨vs, el, fr, h1, h2, h3, h4⟩, hl, hfit', hex, hlo⟩ := q
  have hk := (r.blk b pl cs .loose hρ hb).lt
  have hblt := r.dom _ _ hρ
  have hn := r.none_of_len
  have hle := Rho.le_set ⟨pl.k, pl.base + o, (old ++ new).length, pl.n2, true⟩ hn
  have hnl := hnew.length
  obtain ⟨acs, bk0, hb0, hm, hold'⟩ := row_some hold
  rw [hb] at hb0
  cases hb0
  have holdlen : old.length = m := by rw [hold']; simp; omega
  have holdrel : CsRel ρ old ((vs.drop (pl.base + o)).take m) := by
    have := (h3.drop o).take m
    rw [List.drop_take, List.drop_drop, List.take_take] at this
    rw [hold']
    rwa [Nat.min_eq_left (by omega)] at this
  have hrow : ((setV vs (pl.base + o + m) news).drop (pl.base + o)).take (old ++ new).length = (vs.drop (pl.base + o)).take m ++ news := by
    have e1 : (old ++ new).length = m + news.length := by simp; omega
    rw [e1, setV_drop, setV_take _ _ _ _ (Nat.le_refl _), setV_end]
    · rw [List.take_take, Nat.min_eq_left (by omega)]
    · simp; omega
  have hother : ∀ k, k ≠ pl.k → (putRow w pl.k (.cells (setV vs (pl.base + o + m) news).toArray el fr)).heap[k]? = w.heap[k]? := fun k hk => by
    simp only [putRow]
    rw [Array.getElem?_setIfInBounds_ne (Ne.symm hk)]
  -- a live old block is another one
  have old_get : ∀ (x : Nat) (a : List C) (k : BK), x < H.length → (List.set H b Blk.dead ++ [Blk.cells (old ++ new) .loose])[x]? = some (Blk.cells a k) → x ≠ b ∧ H[x]? = some (Blk.cells a k) := by
    intro x a k hx h
    rw [List.getElem?_append_left (by simpa using hx)] at h
    by_cases e : x = b
    · subst e; rw [List.getElem?_set_self hblt] at h; cases h
    · rw [List.getElem?_set_ne (Ne.symm e)] at h; exact ⟨e, h⟩
  have old_mp : ∀ (x : Nat) (es : MEs) (ck : Nat), (List.set H b Blk.dead ++ [Blk.cells (old ++ new) .loose])[x]? = some (Blk.mp es ck) → x < H.length ∧ H[x]? = some (Blk.mp es ck) := by
    intro x es ck h
    obtain ⟨hx, h⟩ := mp_left h
    rw [List.length_set] at hx
    by_cases e : x = b
    · subst e; rw [List.getElem?_set_self hblt] at h; cases h
    · rw [List.getElem?_set_ne (Ne.symm e)] at h; exact ⟨hx, h⟩
  refine ⟨vs, el, fr, h1, h2, fun j hj hj' => by have := h4 (by simp) j hj hj'; omega, ⟨?_, ?_, ?_, ?_, ?_⟩, ⟨hle, by simp, ?_, ?_, by simp [putRow], rfl, rfl, rfl, ?_, ?_⟩⟩
  · intro x p h
    by_cases e : x = H.length
    · subst e; simp
    · rw [Rho.set_other _ _ e] at h
      have := r.dom _ _ h
      simp; omega
  · intro x p a k h h'
    by_cases e : x = H.length
    · subst e
      rw [Rho.set_same] at h
      cases h
      rw [List.getElem?_append_right (by simp)] at h'
      simp at h'
      obtain ⟨rfl, rfl⟩ := h'
      refine ⟨⟨setV vs (pl.base + o + m) news, el, fr, ?_, by rw [setV_length]; exact h2, ?_, fun _ => h4 (by simp)⟩, rfl, by simp; omega, (fun h => by cases h), fun _ => rfl⟩
      · simp only [putRow]; rw [Array.getElem?_setIfInBounds_self_of_lt hk]
      · simp only; rw [hrow]; exact (holdrel.append hnew).mono hle
    · rw [Rho.set_other _ _ e] at h
      obtain ⟨hne, hx⟩ := old_get x a k (r.dom _ _ h) h'
      have q := r.blk _ _ _ _ h hx
      exact (q.world (hother _ (fun hk => r.sep b x pl p _ _ _ _ (Ne.symm hne) hρ h hb hx (by simp) hk.symm))).mono hle
  · intro x y p p' a a' k k' hne g1 g2 g3 g4 hr
    by_cases e : x = H.length
    · subst e
      rw [Rho.set_same] at g1
      cases g1
      rw [Rho.set_other _ _ (Ne.symm hne)] at g2
      obtain ⟨hyb, hy⟩ := old_get y a' k' (r.dom _ _ g2) g4
      exact r.sep b y pl p' _ _ _ _ (Ne.symm hyb) hρ g2 hb hy (by simp)
    · rw [Rho.set_other _ _ e] at g1
      obtain ⟨hxb, hx⟩ := old_get x a k (r.dom _ _ g1) g3
      by_cases e' : y = H.length
      · subst e'
        rw [Rho.set_same] at g2
        cases g2
        exact fun hh => r.sep b x pl p _ _ _ _ (Ne.symm hxb) hρ g1 hb hx (by simp) hh.symm
      · rw [Rho.set_other _ _ e'] at g2
        obtain ⟨hyb, hy⟩ := old_get y a' k' (r.dom _ _ g2) g4
        exact r.sep x y p p' a a' k k' hne g1 g2 hx hy hr
  · intro x p es ck h h'
    obtain ⟨hx, h'⟩ := old_mp x es ck h'
    rw [Rho.set_other _ _ (by omega)] at h
    have q := r.mp x p es ck h h'
    exact (q.world (hother _ (q.apart (r.blk b pl cs .loose hρ hb)))).mono hle
  · intro x y p p' es es' ck ck' hne g1 g2 g3 g4
    obtain ⟨hx, g3⟩ := old_mp x es ck g3
    obtain ⟨hy, g4⟩ := old_mp y es' ck' g4
    rw [Rho.set_other _ _ (by omega)] at g1 g2
    exact r.sepm x y p p' es es' ck ck' hne g1 g2 g3 g4
  · intro x p h h'
    by_cases e : x = H.length
    · subst e
      rw [Rho.set_same] at h
      cases h
      exact ⟨Nat.le_refl _, .inr ⟨b, pl, hρ, .inl ⟨cs, .loose, hb, by simp⟩, rfl⟩⟩
    · rw [Rho.set_other _ _ e] at h
      rw [h] at h'; cases h'
  · rintro x hx (⟨a, k, h, h'⟩ | ⟨es, ck, h⟩)
    · obtain ⟨_, hx'⟩ := old_get x a k hx h
      exact .inl ⟨a, k, hx', h'⟩
    · exact .inr ⟨es, ck, (old_mp x es ck h).2⟩
  · intro j hj hno
    exact hother j (fun e => hno b pl hρ e.symm (.inl ⟨cs, .loose, hb, by simp⟩))
  · intro x p es dc h1 h2
    have q := r.mp x p es dc h1 h2
    have hx : b ≠ x := fun e => by subst e; rw [hb] at h2; cases h2
    exact ⟨es, dc, by rw [List.getElem?_append_left (by rw [List.length_set]; exact r.dom _ _ h1), List.getElem?_set_ne hx]; exact h2, MapStep.same q (hother _ (q.apart (r.blk b pl cs .loose hρ hb)))⟩
end Ev
namespace Ev
open Go
section
variable {P : Program} {o : Oper} {a : Act} {w : World} {next : Act → World → Prop} {Q : Exit → Act → World → Prop}
variable {R0 : Type} {k : V → Heap → Option R0} {r : R0} {ρ : Rho} {H : Heap} {e : Env} {calls : Nat → Option Callee} {fids : Nat → Option FuncId}

theorem nextcap_le (need old : Nat) (h : old < need) : Builtin.nextslicecap need old ≤ 2 * need + 512 := by
  have hg : ∀ (n c : Nat), c ≤ 2 * need + 512 → Builtin.growBy need n c ≤ 2 * need + 512 := by
    intro n
    induction n with
    | zero => intro c hc; exact hc
    | succ n ih =>
      intro c hc
      unfold Builtin.growBy
      split
      · exact hc
      · exact ih _ (by omega)
  unfold Builtin.nextslicecap
  split
  · omega
  · split
    · omega
    · exact hg _ _ (by omega)

structure AppTypes (P : Program) (t u el : TypeId) (es bytes : Nat) (i : TypeInfo) (z : Value) : Prop where
  ht : P.underlying t = some (.slice el)
  hu : P.underlying u = some .string ∨ ∃ d, P.underlying u = some (.slice d)
  hi : P.info? el = some i
  size : i.size = es
  byt : i.bytes = bytes
  hz : i.zero = some z
  zs : z.cells.size = es
  one : ∀ v ∈ z.cells.toList, v.oneC = true
  small : bytes ≤ 2 ^ 32

theorem run_app_fits {t u el ty : TypeId} {es bytes : Nat} {i : TypeInfo} {z : Value} (T : AppTypes P t u el es bytes i z) {base : Option Addr} {sLen sCap n : Nat} {x : Value} {news : List Value} {w' : World}
    (hn : (Builtin.lenOf x).run P w = .ok n w) (hf : (Builtin.firstCells es n x).run P w = .ok news.toArray w) (hfit : sLen + n ≤ sCap)
    (hst : ∀ b, base = some b → (storeCells (b.add (sLen * es)) news).run P w = .ok () w') (hno : base = none → w' = w) :
    (Builtin.append_ #[t, u] ty #[.slice base sLen sCap, x]).run P w = .ok (.slice base (sLen + n) sCap) w' := by
  have hsz : (Go.sizeOf el).run P w = .ok es w := run_size (by simp [sizeIs, T.hi, T.size])
  rcases T.hu with hd | ⟨d, hd⟩ <;> cases base with
  | none =>
    obtain rfl := hno rfl
    unfold Builtin.append_
    simp only [List.getElem?_toArray, List.getElem?_cons_zero, List.getElem?_cons_succ, Sem.run_bind, run_underlying T.ht, Result.andThen, hsz, run_underlying hd, Sem.run_pure, Bool.false_eq_true, if_false, hn, if_pos hfit, hf, Bool.not_false, if_true]
  | some b =>
    unfold Builtin.append_
    simp only [List.getElem?_toArray, List.getElem?_cons_zero, List.getElem?_cons_succ, Sem.run_bind, run_underlying T.ht, Result.andThen, hsz, run_underlying hd, Sem.run_pure, Bool.false_eq_true, if_false, hn, if_pos hfit, hf, Bool.not_false, if_true, hst b rfl]

theorem run_app_grow {t u el ty : TypeId} {es bytes : Nat} {i : TypeInfo} {z : Value} (T : AppTypes P t u el es bytes i z) {base : Option Addr} {sLen sCap n : Nat} {x : Value} {olds news : List Value}
    (hn : (Builtin.lenOf x).run P w = .ok n w) (hf : (Builtin.firstCells es n x).run P w.drew = .ok news.toArray w.drew) (ho : (Builtin.firstCells es sLen (.slice base sLen sCap)).run P w.drew = .ok olds.toArray w.drew)
    (hgrow : sCap < sLen + n) (hb : (sLen + n) * bytes ≤ maxRow) (hm : sLen + n ≤ maxRow) :
    ∃ (cp : Nat) (rest : List Value), sLen + n ≤ cp ∧ rest.length = (cp - (sLen + n)) * es ∧ (∀ v ∈ rest, v.oneC = true) ∧
      (Builtin.append_ #[t, u] ty #[.slice base sLen sCap, x]).run P w = .ok (.slice (some ⟨w.heap.size, 0, none⟩) (sLen + n) cp) (w.drew.alloc (.cells (olds ++ news ++ rest).toArray el)) := by
  have hsz : ∀ w : World, (Go.sizeOf el).run P w = .ok es w := fun w => run_size (by simp [sizeIs, T.hi, T.size])
  have hinf : ∀ w : World, (typeInfo el).run P w = .ok i w := fun w => run_info T.hi
  have hzr : ∀ w : World, (zeroValue el).run P w = .ok z w := fun w => by simp [zeroValue, hinf, T.hz, Result.andThen]
  have n1 : ¬ (sLen + n ≤ sCap) := by omega
  have hnc := nextcap_le (sLen + n) sCap hgrow
  have n2 : ¬ (Builtin.nextslicecap (sLen + n) sCap * i.bytes > 2 ^ 48) := by
    rw [T.byt]
    have h1 : Builtin.nextslicecap (sLen + n) sCap * bytes ≤ (2 * (sLen + n) + 512) * bytes := Nat.mul_le_mul_right _ hnc
    have h2 : (2 * (sLen + n) + 512) * bytes = 2 * ((sLen + n) * bytes) + 512 * bytes := by rw [Nat.add_mul, Nat.mul_assoc]
    have h3 := T.small
    unfold maxRow at hb
    omega
  have n3 : ¬ (((sLen + n : Nat) : Int) > IntKind.i64.max ∧ (false = true ∨ i.bytes = 0)) := by
    intro h
    have := h.1
    unfold maxRow at hm
    simp at this
    omega
  let cp := (Question.appendCap (sLen + n) sCap el).cut (w.tape w.drawn (.appendCap (sLen + n) sCap el))
  have hcp : sLen + n ≤ cp := by simp only [cp, Question.cut]; omega
  refine ⟨cp, (Builtin.zeroCells z.cells (cp - (sLen + n))).toList, hcp, by simp [Builtin.zeroCells, T.zs], ?_, ?_⟩
  · intro v hv
    simp only [Builtin.zeroCells, Array.toList_map, List.mem_map, Array.mem_toList_iff, Array.mem_range] at hv
    obtain ⟨j, hj, rfl⟩ := hv
    by_cases h0 : z.cells.size = 0
    · rw [h0] at hj; omega
    · have hlt : j % z.cells.size < z.cells.size := Nat.mod_lt _ (by omega)
      rw [getElem!_pos z.cells _ hlt]
      exact T.one _ (by simp)
  · have hch : (choose (.appendCap (sLen + n) sCap el)).run P w = .ok cp w.drew := by simp [Question.forced, cp]
    have hask : ∀ (m : Nat) (w : World), (askRoom m).run P w = .ok () w := by
      intro m w; unfold askRoom; split <;> simp [mark, Sem.run]
    have n3' : ¬ (((sLen + n : Nat) : Int) > IntKind.i64.max ∧ (False ∨ i.bytes = 0)) := by simpa using n3
    have harr : olds.toArray ++ news.toArray ++ Builtin.zeroCells z.cells (cp - (sLen + n)) = (olds ++ news ++ (Builtin.zeroCells z.cells (cp - (sLen + n))).toList).toArray := by
      apply Array.ext'
      simp
    rcases T.hu with hd | ⟨d, hd⟩ <;>
    · unfold Builtin.append_
      simp only [List.getElem?_toArray, List.getElem?_cons_zero, List.getElem?_cons_succ, Sem.run_bind, run_underlying T.ht, Result.andThen, hsz, run_underlying hd, Sem.run_pure, Bool.false_eq_true, if_false, hn, if_neg n1, hinf, n3', n2, hch, hask, ho, hf, hzr, Bool.not_false, if_true, newRow, run_newObj_alloc, harr]
      rfl

theorem chk_app {es bytes : Nat} {s x : Opd} {c : Call} (ok : opOK P fids (.app es bytes s x) (.call c) = true) :
    ∃ y z t u el i zz, c.callee = .builtin .append ∧ c.args = #[y, z] ∧ c.argTypes = #[t, u] ∧ opdOK s y = true ∧ opdOK x z = true ∧ 0 < es ∧ AppTypes P t u el es bytes i zz := by
  obtain ⟨callee, args, ats⟩ := c
  simp only [opOK] at ok
  split at ok
  · rename_i y z t u h2 h3
    simp only [Bool.and_eq_true, decide_eq_true_eq] at ok
    obtain ⟨⟨⟨⟨o1, o2⟩, o3⟩, o4⟩, o5⟩ := ok
    split at o5
    · rename_i el hel
      simp only [Bool.and_eq_true] at o5
      obtain ⟨⟨q1, q2⟩, q3⟩ := o5
      split at q3
      · rename_i i hi
        split at q3
        · rename_i zz hz
          simp only [Bool.and_eq_true, decide_eq_true_eq] at q3
          simp only [sizeIs, hi, decide_eq_true_eq] at q1
          simp only [bytesIs, hi, decide_eq_true_eq, Bool.and_eq_true] at q2
          refine ⟨y, z, t, u, el, i, zz, rfl, by rw [← h2], by rw [← h3], o1, o2, o3, ⟨elem_spec hel, ?_, hi, q1, q2.1, hz, q3.1, ?_, q2.2⟩⟩
          · rcases Bool.or_eq_true_iff.1 o4 with h | h
            · exact .inl (isStr_spec h)
            · obtain ⟨el2, h4⟩ := Option.isSome_iff_exists.1 h
              exact .inr ⟨_, elem_spec h4⟩
          · intro v hv
            have := Array.all_eq_true_iff_forall_mem.1 q3.2 v (by simpa using hv)
            exact this
        · cases q3
      · cases q3
    · cases o5
  · cases ok

theorem firstCells_of (hR : R ρ H w) {es : Nat} {s : Sl} {x : Value} {cs : List C} (hs : CRel ρ (.sl es s) x) (h : slRow H es s = some cs) :
    ∃ vs : List Value, CsRel ρ cs vs ∧ vs.length = s.len * es ∧ (Builtin.lenOf x).run P w = .ok s.len w ∧ ∀ w' : World, w'.heap = w.heap → (Builtin.firstCells es s.len x).run P w' = .ok vs.toArray w' := by
  obtain ⟨q, c, vs, h1, h2, h3, h4⟩ := R.slice (P := P) hR hs h
  subst h1
  refine ⟨vs, h2, h3, by simp [Builtin.lenOf], fun w' hw => ?_⟩
  rcases h4 with ⟨rfl, rfl⟩ | ⟨b, rfl, h4⟩
  · simp [Builtin.firstCells]
  · simpa [Builtin.firstCells] using h4 w' hw

/-- A slice that grows: both sides. -/
theorem app_goes (hR : R ρ H w) {es bytes : Nat} {s p : Sl} {H' : Heap} {n : Nat} {new : List C} {news : List Value} {t u el ty : TypeId} {i : TypeInfo} {z x sv : Value}
    (T : AppTypes P t u el es bytes i z) (hs : CRel ρ (.sl es s) sv) (hnew : CsRel ρ new news) (hnl : news.length = n * es)
    (hn : (Builtin.lenOf x).run P w = .ok n w) (hf : ∀ w', w'.heap = w.heap → (Builtin.firstCells es n x).run P w' = .ok news.toArray w')
    (h : appS H es bytes s n new = some (p, H')) :
    ∃ v w' ρ', (Builtin.append_ #[t, u] ty #[sv, x]).run P w = .ok v w' ∧ CRel ρ' (.sl es p) v ∧ R ρ' H' w' ∧ Ext ρ H w ρ' H' w' := by
  unfold appS at h
  by_cases hfit : s.len + n ≤ s.cap
  · simp only [hfit, decide_true, cond_true] at h
    obtain ⟨sp, len, cap⟩ := s
    simp only at h hfit
    cases sp with
    | none =>
      cases h
      obtain ⟨r1, r2, r3⟩ := hs
      subst r1 r2
      obtain rfl : n = 0 := by omega
      subst r3
      exact ⟨_, w, ρ, run_app_fits T hn (hf w rfl) (by omega) (fun b hb => by cases hb) (fun _ => rfl), ⟨rfl, rfl, rfl⟩, hR, Ext.refl hR⟩
    | some b =>
      obtain ⟨pl, q, cp, g1, g2, f1, f2, f3, f4, f5⟩ := hs
      obtain ⟨qb, qo, qs⟩ := q
      simp only at f1 f2 f5 h
      subst f1 f2 g2
      have hcap : cap ≤ cp := by rcases f5 with ⟨_, f6, _⟩ | ⟨f6, f7⟩ <;> omega
      by_cases h0 : n = 0
      · subst h0
        simp only [decide_true, cond_true] at h
        cases h
        have hnil : news = [] := by cases news with | nil => rfl | cons _ _ => simp at hnl
        subst hnil
        refine ⟨_, w, ρ, run_app_fits T hn (hf w rfl) (by omega) (fun b hb => by simp [storeCells]) (fun _ => rfl), ?_, hR, Ext.refl hR⟩
        exact ⟨pl, _, cp, g1, rfl, rfl, rfl, f3, f4, f5⟩
      · simp only [h0, decide_false, cond_false] at h
        obtain ⟨H1, h1, h2⟩ := Option.bind_some_inv h
        cases h2
        rcases f5 with ⟨f5, f6, f7, f8⟩ | ⟨f5, f6⟩
        · subst f5
          obtain ⟨vs, el', fr, s1, s2, s3, s4, s5⟩ := hR.store g1 h1 hnew
          have hrun := run_storeCells_row (P := P) news (pl.base + b.2 + len * es) 0 vs w s1 (by omega) s3 hnew.oneC
          refine ⟨_, _, ρ, run_app_fits T hn (hf w rfl) (by omega) (fun b' hb => ?_) (fun hb => by cases hb), ?_, s4, s5⟩
          · cases hb
            rw [add_addr, hrun]
            rw [Nat.add_zero, Nat.add_assoc]
          · exact ⟨pl, _, cp, g1, rfl, rfl, rfl, hfit, f4, .inl ⟨rfl, f6, f7, f8⟩⟩
        · omega
  · simp only [hfit, decide_false, cond_false] at h
    obtain ⟨hb, h⟩ := cond_some_inv h
    obtain ⟨hb1, hb2⟩ := of_decide_eq_true hb
    obtain ⟨old, h1, h⟩ := Option.bind_some_inv h
    obtain ⟨H1, h2, h⟩ := Option.bind_some_inv h
    cases h
    obtain ⟨olds', k1', k2', _, k4'⟩ := firstCells_of (P := P) hR hs h1
    have k1 := k1'
    obtain ⟨q, scap, hsv, hqn⟩ := sl_shape hs
    subst hsv
    have hnwl := hnew.length
    -- the abstract heap with the new block
    have new_block : ∀ (cp : Nat) (rest : List Value), s.len + n ≤ cp → rest.length = (cp - (s.len + n)) * es → (∀ v ∈ rest, v.oneC = true) →
        (Builtin.append_ #[t, u] ty #[.slice q s.len scap, x]).run P w = .ok (.slice (some ⟨w.heap.size, 0, none⟩) (s.len + n) cp) (w.drew.alloc (.cells (olds' ++ news ++ rest).toArray el)) →
        ∃ v w' ρ', (Builtin.append_ #[t, u] ty #[.slice q s.len scap, x]).run P w = .ok v w' ∧ CRel ρ' (.sl es ⟨some (H.length, 0), s.len + n, s.len + n⟩) v ∧ R ρ' (H1 ++ [.cells (old ++ new) .loose]) w' ∧ Ext ρ H w ρ' (H1 ++ [.cells (old ++ new) .loose]) w' := by
      intro cp rest c1 c2 c3 hrun
      have hk : HeapKill H H1 := growKill_spec h2
      have hR1 : R ρ H1 w := hR.kill hk
      have hol' := k1'.length
      obtain ⟨g1, g2⟩ := hR1.alloc (w' := w.drew.alloc (.cells (olds' ++ news ++ rest).toArray el)) (old ++ new) .loose (olds' ++ news ++ rest) el (0, 0) rfl rfl rfl rfl
        (by rw [List.take_left' (by simp; omega)]; exact k1'.append hnew) (by simp; omega) (by simp) (by intro j _ h; exact absurd h (Nat.not_lt_zero _))
      have hlen : H1.length = H.length := hk.length
      refine ⟨_, _, _, hrun, ?_, g1, Ext.kill hk g2⟩
      rw [hlen] at *
      refine ⟨_, _, cp, Rho.set_same _ _ _, rfl, rfl, rfl, Nat.le_refl _, ?_, .inl ⟨by simp, c1, .inr ⟨by simp, ?_⟩, ?_⟩⟩
      · simp only [List.length_append, Nat.zero_add]; rw [hol', hnwl, k2', hnl, Nat.add_mul]; exact Nat.le_refl _
      · simp only [List.length_append, Nat.zero_add]; rw [hol', hnwl, k2', hnl, Nat.add_mul]
      · simp only [List.length_append, Nat.zero_add]
        rw [k2', hnl, c2, ← Nat.add_mul, ← Nat.add_mul]
        exact Nat.mul_le_mul_right _ (by omega)
    by_cases hsc : scap < s.len + n
    · obtain ⟨cp, rest, c1, c2, c3, hrun⟩ := run_app_grow (ty := ty) T (base := q) (sLen := s.len) (sCap := scap) (x := x) (olds := olds') (news := news) hn (hf _ rfl) (k4' _ rfl) hsc hb1 hb2
      exact new_block cp rest c1 c2 c3 hrun
    · -- it has room in truth: the block is a loose one, and goes on under a new number
      obtain ⟨sp, len, cap⟩ := s
      simp only at hfit hsc hqn k1 h1 hb1 hb2 ⊢
      cases sp with
      | none => obtain ⟨_, _, h3⟩ := hs; cases h3; omega
      | some b =>
        obtain ⟨pl, qa, cp, g1, g2, f1, f2, f3, f4, f5⟩ := hs
        cases g2
        obtain ⟨qb, qo, qs⟩ := qa
        simp only at f1 f2 f5
        subst f1 f2
        rcases f5 with ⟨f5, f6, f7, f8⟩ | ⟨f5, f6⟩
        · subst f5
          rcases f7 with f7 | ⟨f7, f9⟩
          · omega
          · have h1' : Heap.row H b.1 b.2 (len * es) = some old := h1
            obtain ⟨acs, bk, hb, hm, hold⟩ := row_some h1'
            have hpn : acs.length = pl.n := (hR.blk _ _ _ _ g1 hb).len
            have hbl : bk = .loose ∧ H1 = List.set H b.1 Blk.dead := by
              unfold growKill at h2
              simp only [hb] at h2
              cases bk with
              | ro => simp [hpn, f9] at h2
              | exact => have := (hR.blk _ _ _ _ g1 hb).exact rfl; rw [this.2.2] at f7; cases f7
              | loose => simp [hpn, f9] at h2; exact ⟨rfl, h2.symm⟩
            obtain ⟨rfl, rfl⟩ := hbl
            have hcp : (len + n) * es ≤ scap * es := Nat.mul_le_mul_right _ (by omega)
            have hsum : (len + n) * es = len * es + n * es := Nat.add_mul _ _ _
            obtain ⟨vs, el', fr, s1, s2, s3, s4, s5⟩ := hR.regrow' g1 hb h1' hnew (by rw [hnl]; omega)
            have hrun := run_storeCells_row (P := P) news (pl.base + b.2 + len * es) 0 vs w s1 (by rw [s2, hnl]; omega) s3 hnew.oneC
            have hlo : (old ++ new).length = (len + n) * es := by
              have := k1.length
              simp only [List.length_append]
              rw [hnwl, hnl, hold]
              simp only [List.length_take, List.length_drop]
              omega
            refine ⟨_, _, _, run_app_fits T hn (hf w rfl) (by omega) (fun b' hb' => ?_) (fun hb' => by cases hb'), ?_, s4, s5⟩
            · cases hb'
              rw [add_addr, hrun, Nat.add_zero]
            · refine ⟨_, _, scap, Rho.set_same _ _ _, rfl, rfl, rfl, Nat.le_refl _, ?_, .inl ⟨rfl, by omega, .inr ⟨rfl, ?_⟩, ?_⟩⟩
              · simp only [hlo, Nat.zero_add]; exact Nat.le_refl _
              · simp only [hlo, Nat.zero_add]
              · simp only [Nat.add_zero]; omega
        · omega

theorem go_app (hR : R ρ H w) (he : EnvRel ρ e a) {es bytes : Nat} {s x : Opd} (ok : opOK P fids (.app es bytes s x) o.op = true) (hev : evOp calls (.app es bytes s x) e H k = some r) : Goes k r ρ H w P o a := by
  simp only [evOp] at hev
  cases ho : o.op <;> rw [ho] at ok <;> try (simp only [opOK] at ok; contradiction)
  rename_i c
  obtain ⟨y, z, t, u, el, i, zz, c1, c2, c3, o1, o2, hes, T⟩ := chk_app ok
  obtain ⟨callee, args, ats⟩ := c
  simp only at c1 c2 c3
  subst c1 c2 c3
  have main : ∀ (sl p : Sl) (n : Nat) (new : List C) (news : List Value) (H' : Heap), s.ev e = .w (.one (.sl es sl)) → CsRel ρ new news → news.length = n * es →
      (Builtin.lenOf (a.eval z)).run P w = .ok n w → (∀ w', w'.heap = w.heap → (Builtin.firstCells es n (a.eval z)).run P w' = .ok news.toArray w') →
      appS H es bytes sl n new = some (p, H') → k (.w (.one (.sl es p))) H' = some r → Goes k r ρ H w P o a := by
    intro sl p n new news H' e1 h1 h2 h3 h4 h5 hk next Q hn
    obtain ⟨v, w', ρ', g1, g2, g3, g4⟩ := app_goes (ty := o.type) hR T (vrel_sl (opd_rel he o1) e1) h1 h2 h3 h4 h5
    refine wp_value (v := v) (w' := w') ?_ (hn _ _ _ _ _ hk g2 g3 g4)
    simp only [execOp, ho, resolve, invoke, builtin, Sem.run_bind, Sem.run_pure, Result.andThen, List.map_toArray, List.map_cons, List.map_nil, g1]
  split at hev
  · rename_i es' sl es'' xl e1 e2
    obtain ⟨hb, hev1⟩ := cond_some_inv hev
    simp only [Bool.and_eq_true, decide_eq_true_eq] at hb
    obtain ⟨rfl, rfl⟩ := hb
    obtain ⟨new, h1, hev2⟩ := Option.bind_some_inv hev1
    obtain ⟨p, h2, hk⟩ := Option.bind_some_inv hev2
    have hz := vrel_sl (opd_rel he o2) e2
    obtain ⟨vs, g1, g2, g3, g4⟩ := firstCells_of (P := P) hR hz h1
    exact main sl p.1 xl.len new vs p.2 e1 g1 g2 g3 g4 h2 hk
  · rename_i es' sl t2 e1 e2
    obtain ⟨hb, hev1⟩ := cond_some_inv hev
    simp only [Bool.and_eq_true, decide_eq_true_eq] at hb
    obtain ⟨rfl, rfl⟩ := hb
    obtain ⟨p, h2, hk⟩ := Option.bind_some_inv hev1
    obtain ⟨zs, hx, hz⟩ := vrel_str (opd_rel he o2) e2
    have hl : zs.size = t2.length := by rw [← hz, Array.length_toList]; rfl
    refine main sl p.1 t2.length (cellsOf t2) (byteV t2) p.2 e1 (cellsOf_rel t2) (by simp [byteV_length]) (by rw [hx]; simp [Builtin.lenOf, hl]) (fun w' _ => ?_) h2 hk
    rw [hx]
    simp only [Builtin.firstCells, Sem.run_pure]
    congr 1
    apply Array.ext'
    rw [← hl]
    simp [byteV, ← hz]
  · cases hev

end
end Ev
namespace Ev
open Go
section
variable {P : Program} {o : Oper} {a : Act} {w : World} {next : Act → World → Prop} {Q : Exit → Act → World → Prop}
variable {R0 : Type} {k : V → Heap → Option R0} {r : R0} {ρ : Rho} {H : Heap} {e : Env} {calls : Nat → Option Callee} {fids : Nat → Option FuncId}

theorem CRel.shorten {es : Nat} {s : Sl} {q : Option Addr} {l c m : Nat} (h : CRel ρ (.sl es s) (.slice q l c)) (hm : m ≤ s.len) : CRel ρ (.sl es ⟨s.p, m, s.cap⟩) (.slice q m c) := by
  obtain ⟨p, len, cap⟩ := s
  cases p with
  | none =>
    obtain ⟨h1, h2, h3⟩ := h
    cases h3
    simp only at hm
    obtain rfl : m = 0 := by omega
    exact ⟨rfl, h2, rfl⟩
  | some b =>
    obtain ⟨pl, x, cp, g1, g2, f1, f2, f3, f4, f5⟩ := h
    cases g2
    simp only at hm
    have f3' : m ≤ cap := by omega
    exact ⟨pl, x, c, g1, rfl, f1, f2, f3', f4, f5⟩

/-- A row stored at a slice's beginning. -/
theorem store_slice (hR : R ρ H w) {es : Nat} {s : Sl} {q : Option Addr} {l c : Nat} {b : Nat × Nat} {new : List C} {us : List Value} {H' : Heap} (h : CRel ρ (.sl es s) (.slice q l c)) (hp : s.p = some b)
    (hw : wr H b.1 b.2 new = some H') (hu : CsRel ρ new us) (hne : us ≠ [] ) (hle : us.length ≤ s.len * es) :
    ∃ x w', q = some x ∧ (storeCells x us).run P w = .ok () w' ∧ R ρ H' w' ∧ Ext ρ H w ρ H' w' := by
  obtain ⟨p, len, cap⟩ := s
  simp only at hp
  subst hp
  obtain ⟨pl, x, cp, g1, g2, f1, f2, f3, f4, f5⟩ := h
  cases g2
  obtain ⟨qb, qo, qs⟩ := x
  simp only at f1 f2 f5
  subst f1 f2
  rcases f5 with ⟨f5, _⟩ | ⟨f5, _⟩
  · subst f5
    obtain ⟨vs, el, fr, s1, s2, s3, s4, s5⟩ := hR.store g1 hw hu
    have hrun := run_storeCells_row (P := P) us (pl.base + b.2) 0 vs w s1 (by omega) s3 hu.oneC
    exact ⟨_, _, rfl, hrun, s4, s5⟩
  · exfalso
    subst f5
    have hl0 : l = 0 := by omega
    subst hl0
    simp only [Nat.zero_mul, Nat.le_zero_eq] at hle
    exact hne (List.eq_nil_of_length_eq_zero hle)

theorem go_cpy (hR : R ρ H w) (he : EnvRel ρ e a) {es : Nat} {d s : Opd} (ok : opOK P fids (.cpy es d s) o.op = true) (hev : evOp calls (.cpy es d s) e H k = some r) : Goes k r ρ H w P o a := by
  simp only [evOp] at hev
  cases ho : o.op <;> rw [ho] at ok <;> simp only [opOK] at ok <;> try contradiction
  rename_i c
  obtain ⟨callee, args, ats⟩ := c
  simp only at ok
  split at ok
  · rename_i y z t h2 h3
    simp only [Bool.and_eq_true] at ok
    obtain ⟨⟨o1, o2⟩, o3⟩ := ok
    obtain ⟨el, hu, hsz⟩ := slOK_spec o3
    have ha : args = #[y, z] := by rw [← h2]
    subst ha
    have hrunsz : (Go.sizeOf el).run P w = .ok es w := run_size hsz
    -- one road for both kinds of source
    have main : ∀ (dl : Sl) (n : Nat) (new : List C) (us : List Value) (m : Nat), d.ev e = .w (.one (.sl es dl)) → CsRel ρ new us → us.length = n * es → n ≤ dl.len →
        (Builtin.lenOf (a.eval z)).run P w = .ok m w → Nat.min m dl.len = n → (Builtin.firstCells es n (a.eval z)).run P w = .ok us.toArray w →
        ((cpyS H es dl n new).bind fun p => k (.w (.one (.int .i64 p.1))) p.2) = some r → Goes k r ρ H w P o a := by
      intro dl n new us m e1 hc hl hn hm hmn hf hk
      obtain ⟨p, hp, hk2⟩ := Option.bind_some_inv hk
      clear hk
      have hd := vrel_sl (opd_rel he o1) e1
      obtain ⟨q, cp, hdv, _⟩ := sl_shape hd
      rw [hdv] at hd
      have hexec : ∀ w', (∀ b, q = some b → (storeCells b us).run P w = .ok () w') → (q = none → w' = w) → (execOp a.eval o).run P w = .ok (.value (.int .i64 (n : Int))) w' := by
        intro w' hq1 hq2
        simp only [execOp, ho, resolve, invoke, builtin, Sem.run_bind, Sem.run_pure, Result.andThen, List.map_toArray, List.map_cons, List.map_nil, Builtin.copy_, h3, List.getElem?_toArray, List.getElem?_cons_zero, List.getElem?_cons_succ, run_underlying hu, hdv, hm, hmn, hrunsz, hf]
        cases q with
        | none => rw [hq2 rfl]; simp only [Sem.run_pure]; rfl
        | some b => simp only [Sem.run_bind, hq1 b rfl, Result.andThen, Sem.run_pure]; rfl
      unfold cpyS at hp
      by_cases h0 : n = 0
      · subst h0
        simp only [decide_true, cond_true] at hp
        cases hp
        have hnil : us = [] := List.eq_nil_of_length_eq_zero (by simpa using hl)
        subst hnil
        exact goes_same' (v' := .int .i64 0) (hexec w (fun b _ => by simp [storeCells]) (fun _ => rfl)) hk2 rfl hR
      · simp only [h0, decide_false, cond_false] at hp
        split at hp
        · cases hp
        · rename_i b hb
          obtain ⟨H', hw, hp⟩ := Option.bind_some_inv hp
          cases hp
          intro next Q hnx
          by_cases hus : us = []
          · subst hus
            obtain ⟨p0, len, cap⟩ := dl
            simp only at hb
            subst hb
            obtain ⟨pl, x, cp', g1, g2, f1, f2, f3, f4, f5⟩ := hd
            obtain ⟨vs, el', fr, s1, s2, s3, s4, s5⟩ := hR.store g1 hw hc
            have hputs : putRow w pl.k (.cells (setV vs (pl.base + b.2) []).toArray el' fr) = w := by simp only [setV]; exact putRow_self s1
            rw [hputs] at s4 s5
            exact wp_value (hexec w (fun b _ => by simp [storeCells]) (fun h => by rw [h] at g2)) (hnx _ _ _ _ _ hk2 rfl s4 s5)
          · obtain ⟨x, w', hx, g1, g2, g3⟩ := store_slice (P := P) hR hd hb hw hc hus (by rw [hl]; exact Nat.mul_le_mul_right _ hn)
            exact wp_value (hexec w' (fun b hb => by rw [hx] at hb; cases hb; exact g1) (fun h => by rw [hx] at h; cases h)) (hnx _ _ _ _ _ hk2 rfl g2 g3)
    split at hev
    · rename_i es' dl es'' sl e1 e2
      obtain ⟨hb, hev1⟩ := cond_some_inv hev
      simp only [Bool.and_eq_true, decide_eq_true_eq] at hb
      obtain ⟨rfl, rfl⟩ := hb
      obtain ⟨new, h4, hev2⟩ := Option.bind_some_inv hev1
      have hs := vrel_sl (opd_rel he o2) e2
      obtain ⟨q, cp, hsv, _⟩ := sl_shape hs
      rw [hsv] at hs
      have hsh := hs.shorten (m := min sl.len dl.len) (Nat.min_le_left _ _)
      obtain ⟨us, g1, g2, _, g4⟩ := firstCells_of (P := P) hR hsh h4
      refine main dl (min sl.len dl.len) new us sl.len e1 g1 g2 (Nat.min_le_right _ _) (by rw [hsv]; simp [Builtin.lenOf]) rfl ?_ hev2
      have := g4 w rfl
      rw [hsv]
      cases q with
      | none => simpa [Builtin.firstCells] using this
      | some b => simpa [Builtin.firstCells] using this
    · rename_i es'' dl t2 e1 e2
      obtain ⟨hb, hev1⟩ := cond_some_inv hev
      simp only [Bool.and_eq_true, decide_eq_true_eq] at hb
      obtain ⟨rfl, rfl⟩ := hb
      obtain ⟨zs, hx, hz⟩ := vrel_str (opd_rel he o2) e2
      have hl : zs.size = t2.length := by rw [← hz, Array.length_toList]; rfl
      refine main dl (min t2.length dl.len) _ (byteV (t2.take (min t2.length dl.len))) t2.length e1 (cellsOf_rel _) (by simp [byteV_length]) (Nat.min_le_right _ _) (by rw [hx]; simp [Builtin.lenOf, hl]) rfl ?_ hev1
      rw [hx]
      simp only [Builtin.firstCells, Sem.run_pure]
      congr 1
      apply Array.ext'
      have : (zs.extract 0 (min t2.length dl.len)).data.toList = t2.take (min t2.length dl.len) := by
        rw [Lib.extract_data, hz]; simp
      rw [← this]
      simp [byteV]
    · cases hev
  · cases ok

theorem rep_zeroCells (zs : Array Value) (n : Nat) (h : 0 < zs.size) : (Builtin.zeroCells zs n).toList = (List.replicate n zs.toList).flatten := by
  unfold Builtin.zeroCells
  exact range_zero zs n h

theorem go_clr (hR : R ρ H w) (he : EnvRel ρ e a) {z : List C} {x : Opd} (ok : opOK P fids (.clr z x) o.op = true) (hev : evOp calls (.clr z x) e H k = some r) : Goes k r ρ H w P o a := by
  simp only [evOp] at hev
  cases ho : o.op <;> rw [ho] at ok <;> simp only [opOK] at ok <;> try contradiction
  rename_i c
  obtain ⟨callee, args, ats⟩ := c
  simp only at ok
  split at ok
  · rename_i y t h2 h3
    simp only [Bool.and_eq_true, decide_eq_true_eq] at ok
    obtain ⟨⟨o1, o2⟩, o3⟩ := ok
    split at o3
    · rename_i el hel
      simp only [Bool.and_eq_true] at o3
      have hu := elem_spec hel
      have ha : args = #[y] := by rw [← h2]
      subst ha
      obtain ⟨zz, hzr, hzrel⟩ := run_zero (P := P) (w := w) o3.2
      split at hev
      · rename_i es sl e1
        obtain ⟨hes, hev1⟩ := cond_some_inv hev
        have hes := of_decide_eq_true hes
        subst hes
        obtain ⟨H', h4, hk⟩ := Option.bind_some_inv hev1
        have hs := vrel_sl (opd_rel he o1) e1
        obtain ⟨q, cp, hsv, hqn⟩ := sl_shape hs
        rw [hsv] at hs
        have hexec : ∀ w', (q = none ∨ sl.len = 0 → w' = w) → (∀ b, q = some b → sl.len ≠ 0 → (storeCells b (Builtin.zeroCells zz.cells sl.len).toList).run P w = .ok () w') → (execOp a.eval o).run P w = .ok (.value (.tuple #[])) w' := by
          intro w' hq1 hq2
          simp only [execOp, ho, resolve, invoke, builtin, Sem.run_bind, Sem.run_pure, Result.andThen, List.map_toArray, List.map_cons, List.map_nil, Builtin.clear_, h3, List.getElem?_toArray, List.getElem?_cons_zero, run_underlying hu, hsv]
          cases q with
          | none => rw [hq1 (.inl rfl)]; simp
          | some b =>
            cases hn : sl.len with
            | zero => rw [hq1 (.inr hn)]; simp
            | succ n =>
              have := hq2 b rfl (by omega)
              rw [hn] at this
              simp [hzr, this, Result.andThen]
        unfold clrS at h4
        by_cases h0 : sl.len = 0
        · simp only [h0, decide_true, cond_true] at h4
          cases h4
          exact goes_same' (hexec w (fun _ => rfl) (fun _ _ h => absurd h0 h)) hk ⟨[], rfl, trivial⟩ hR
        · simp only [h0, decide_false, cond_false] at h4
          split at h4
          · cases h4
          · rename_i b hb
            have hzl := (hzrel ρ).length
            have hzs : zz.cells.size = z.length := by rw [hzl]; simp
            have hrel := rep_rel (hzrel ρ) sl.len
            rw [← rep_zeroCells _ _ (by omega)] at hrel
            have hlen : (Builtin.zeroCells zz.cells sl.len).toList.length = sl.len * z.length := by
              rw [← hrel.length, rep_length]
            obtain ⟨x, w', hx, g1, g2, g3⟩ := store_slice (P := P) hR hs hb h4 hrel (by intro hh; rw [hh] at hlen; simp at hlen; have := Nat.mul_pos (Nat.pos_of_ne_zero h0) o2; omega) (by rw [hlen]; exact Nat.le_refl _)
            intro next Q hnx
            exact wp_value (hexec w' (fun h => by rcases h with h | h; rw [hx] at h; cases h; exact absurd h h0) (fun b hb _ => by rw [hx] at hb; cases hb; exact g1)) (hnx _ _ _ _ _ hk ⟨[], rfl, trivial⟩ g2 g3)
      · cases hev
    · cases o3
  · cases ok

theorem opds_rel (he : EnvRel ρ e a) : ∀ {xs : List Opd} {ys : List Operand}, opdsOK xs ys = true → xs.length = ys.length ∧ ∀ (j : Nat) (v : V), (xs.map (Opd.ev e))[j]? = some v → ∃ u, (ys.map a.eval)[j]? = some u ∧ VRel ρ v u
  | [], [], _ => ⟨rfl, fun j v h => by simp at h⟩
  | x :: xs, y :: ys, h => by
    simp only [opdsOK, Bool.and_eq_true] at h
    obtain ⟨h1, h2⟩ := opds_rel he h.2
    refine ⟨by simp [h1], fun j v hj => ?_⟩
    cases j with
    | zero => simp at hj; subst hj; exact ⟨a.eval y, by simp, opd_rel he h.1⟩
    | succ j => simp only [List.map_cons, List.getElem?_cons_succ] at hj ⊢; exact h2 j v hj
  | [], _ :: _, h => by simp [opdsOK] at h
  | _ :: _, [], h => by simp [opdsOK] at h

def VsRel (ρ : Rho) : List V → List Value → Prop
  | [], [] => True
  | v :: vs, u :: us => VRel ρ v u ∧ VsRel ρ vs us
  | _, _ => False
theorem opds_vs (he : EnvRel ρ e a) : ∀ {xs : List Opd} {ys : List Operand}, opdsOK xs ys = true → VsRel ρ (xs.map (Opd.ev e)) (ys.map a.eval)
  | [], [], _ => trivial
  | x :: xs, y :: ys, h => by
    simp only [opdsOK, Bool.and_eq_true] at h
    exact ⟨opd_rel he h.1, opds_vs he h.2⟩
  | [], _ :: _, h => by simp [opdsOK] at h
  | _ :: _, [], h => by simp [opdsOK] at h

theorem minI_run {kd : IntKind} : ∀ {vs : List V} {us : List Value} {x : Int} {f : Int → Option R0}, VsRel ρ vs us → minI x vs f = some r → ∃ n, f n = some r ∧ (us.foldlM Builtin.min2 (.int kd x)).run P w = .ok (.int kd n) w
  | [], [], x, f, _, h => ⟨x, h, by simp⟩
  | v :: vs, u :: us, x, f, ⟨h1, h2⟩, h => by
    unfold minI at h
    split at h
    · rename_i heq; cases heq
    · rename_i kd' b rest heq
      cases heq
      obtain ⟨n, h3, h4⟩ := minI_run (kd := kd) h2 h
      refine ⟨n, h3, ?_⟩
      have hu : u = .int kd' b := h1
      subst hu
      simp only [List.foldlM_cons, Builtin.min2, Sem.run_bind, Sem.run_pure, Result.andThen]
      exact h4
    · cases h
  | [], _ :: _, _, _, h, _ => h.elim
  | _ :: _, [], _, _, h, _ => h.elim
theorem maxI_run {kd : IntKind} : ∀ {vs : List V} {us : List Value} {x : Int} {f : Int → Option R0}, VsRel ρ vs us → maxI x vs f = some r → ∃ n, f n = some r ∧ (us.foldlM Builtin.max2 (.int kd x)).run P w = .ok (.int kd n) w
  | [], [], x, f, _, h => ⟨x, h, by simp⟩
  | v :: vs, u :: us, x, f, ⟨h1, h2⟩, h => by
    unfold maxI at h
    split at h
    · rename_i heq; cases heq
    · rename_i kd' b rest heq
      cases heq
      obtain ⟨n, h3, h4⟩ := maxI_run (kd := kd) h2 h
      refine ⟨n, h3, ?_⟩
      have hu : u = .int kd' b := h1
      subst hu
      simp only [List.foldlM_cons, Builtin.max2, Sem.run_bind, Sem.run_pure, Result.andThen]
      exact h4
    · cases h
  | [], _ :: _, _, _, h, _ => h.elim
  | _ :: _, [], _, _, h, _ => h.elim

theorem go_min (hR : R ρ H w) (he : EnvRel ρ e a) {xs : List Opd} (ok : opOK P fids (.min xs) o.op = true) (hev : evOp calls (.min xs) e H k = some r) : Goes k r ρ H w P o a := by
  simp only [evOp] at hev
  cases ho : o.op <;> rw [ho] at ok <;> simp only [opOK] at ok <;> try contradiction
  rename_i c
  obtain ⟨callee, args, ats⟩ := c
  simp only at ok
  split at ok
  · have hv := opds_vs he ok
    split at hev
    · rename_i kd x rest heq
      rw [heq] at hv
      cases hy : args.toList.map a.eval with
      | nil => rw [hy] at hv; exact hv.elim
      | cons u us =>
        rw [hy] at hv
        obtain ⟨hu, hus⟩ := hv
        have hu : u = .int kd x := hu
        subst hu
        obtain ⟨n, h1, h2⟩ := minI_run (P := P) (w := w) (kd := kd) hus hev
        refine goes_same' (v' := .int kd n) ?_ h1 rfl hR
        have hargs : (args.map a.eval).toList = .int kd x :: us := by rw [Array.toList_map]; exact hy
        simp only [execOp, ho, resolve, invoke, builtin, Sem.run_bind, Sem.run_pure, Result.andThen, Builtin.min_, hargs, h2]
    · cases hev
  · cases ok
theorem go_max (hR : R ρ H w) (he : EnvRel ρ e a) {xs : List Opd} (ok : opOK P fids (.max xs) o.op = true) (hev : evOp calls (.max xs) e H k = some r) : Goes k r ρ H w P o a := by
  simp only [evOp] at hev
  cases ho : o.op <;> rw [ho] at ok <;> simp only [opOK] at ok <;> try contradiction
  rename_i c
  obtain ⟨callee, args, ats⟩ := c
  simp only at ok
  split at ok
  · have hv := opds_vs he ok
    split at hev
    · rename_i kd x rest heq
      rw [heq] at hv
      cases hy : args.toList.map a.eval with
      | nil => rw [hy] at hv; exact hv.elim
      | cons u us =>
        rw [hy] at hv
        obtain ⟨hu, hus⟩ := hv
        have hu : u = .int kd x := hu
        subst hu
        obtain ⟨n, h1, h2⟩ := maxI_run (P := P) (w := w) (kd := kd) hus hev
        refine goes_same' (v' := .int kd n) ?_ h1 rfl hR
        have hargs : (args.map a.eval).toList = .int kd x :: us := by rw [Array.toList_map]; exact hy
        simp only [execOp, ho, resolve, invoke, builtin, Sem.run_bind, Sem.run_pure, Result.andThen, Builtin.max_, hargs, h2]
    · cases hev
  · cases ok

end
end Ev
namespace Ev
open Go
section
variable {P : Program} {o : Oper} {a : Act} {w : World} {next : Act → World → Prop} {Q : Exit → Act → World → Prop}
variable {R0 : Type} {k : V → Heap → Option R0} {r : R0} {ρ : Rho} {H : Heap} {e : Env} {calls : Nat → Option Callee} {fids : Nat → Option FuncId}

theorem zip_setV : ∀ (us : List Value) (cs : Array Value) (off j : Nat), ((us.zipIdx j).foldl (fun cs (c, j) => cs.setIfInBounds (off + j) c) cs).toList = setV cs.toList (off + j) us
  | [], _, _, _ => rfl
  | u :: r, cs, off, j => by
    simp only [List.zipIdx_cons, List.foldl_cons, setV]
    rw [zip_setV r _ off (j + 1)]
    rw [Array.toList_setIfInBounds, Nat.add_assoc]

theorem zipA_setV (us : Array Value) (cs : Array Value) (off : Nat) : (us.zipIdx.foldl (fun cs (c, j) => cs.setIfInBounds (off + j) c) cs).toList = setV cs.toList off us.toList := by
  have := zip_setV us.toList cs off 0
  rw [Nat.add_zero] at this
  rw [← this, ← Array.foldl_toList, Array.toList_zipIdx]

theorem fill_rel (he : EnvRel ρ e a) {place : Nat → Option (Nat × Nat)} : ∀ {ps : List (Nat × Nat × Opd)} {parts : List (Nat × Operand)} {cs cs' : List C} {vs : Array Value},
    partsOK place ps parts = true → CsRel ρ cs vs.toList → fillParts e cs ps = some cs' →
    ∃ vs', Instr.fill place vs (parts.map fun (i, x) => (i, a.eval x)) = some vs' ∧ CsRel ρ cs' vs'.toList
  | [], [], cs, cs', vs, _, h, hf => by cases hf; exact ⟨vs, rfl, h⟩
  | (off, n, x) :: ps, (i, y) :: parts, cs, cs', vs, ok, h, hf => by
    simp only [partsOK, Bool.and_eq_true, decide_eq_true_eq] at ok
    obtain ⟨⟨o1, o2⟩, o3⟩ := ok
    have hx := opd_rel he o2
    have hlen := h.length
    -- one part
    have main : ∀ u : W, x.ev e = .w u → n = u.cs.length → off + n ≤ cs.length → fillParts e (setL cs off u.cs) ps = some cs' →
        ∃ vs', Instr.fill place vs (((i, y) :: parts).map fun (i, x) => (i, a.eval x)) = some vs' ∧ CsRel ρ cs' vs'.toList := by
      intro u e1 hn hle hk
      rw [e1] at hx
      have hc := WRel.cs (ρ := ρ) (x := u) (v := a.eval y) hx
      have hcl := hc.length
      obtain ⟨vs', g1, g2⟩ := fill_rel he (vs := ((a.eval y).cells.zipIdx.foldl (fun cs (c, j) => cs.setIfInBounds (off + j) c) vs)) o3 (by rw [zipA_setV]; exact h.setL off hc) hk
      refine ⟨vs', ?_, g2⟩
      simp only [List.map_cons, Instr.fill, o1]
      rw [if_neg, g1]
      simp only [Array.length_toList] at hcl hlen
      intro hh
      simp only [ne_eq, gt_iff_lt, Bool.or_eq_true, decide_eq_true_eq] at hh
      omega
    simp only [fillParts] at hf
    split at hf
    · rename_i c e1
      obtain ⟨h1, h2⟩ := cond_some_inv hf
      simp only [Bool.and_eq_true, decide_eq_true_eq] at h1
      exact main (.one c) e1 h1.1 (by rw [h1.1]; exact h1.2) h2
    · rename_i xs e1
      obtain ⟨h1, h2⟩ := cond_some_inv hf
      simp only [Bool.and_eq_true, decide_eq_true_eq] at h1
      exact main (.agg xs) e1 h1.1 h1.2 h2
    · cases hf
  | [], _ :: _, _, _, _, ok, _, _ => by simp [partsOK] at ok
  | _ :: _, [], _, _, _, ok, _, _ => by simp [partsOK] at ok

theorem zeroIs_spec {t : TypeId} {z : List C} (h : zeroIs P t z = true) : ∃ i zz, P.info? t = some i ∧ i.zero = some zz ∧ ∀ ρ, CsRel ρ z zz.cells.toList := by
  unfold zeroIs at h
  cases hi : P.info? t with
  | none => simp [hi] at h
  | some i =>
    cases hz : i.zero with
    | none => simp [hi, hz] at h
    | some v =>
      simp [hi, hz] at h
      exact ⟨i, v, rfl, hz, fun ρ => csOK_rel h ρ⟩

theorem map_parts (parts : Array (Nat × Operand)) : (parts.map fun (i, x) => (i, a.eval x)).toList = parts.toList.map fun (i, x) => (i, a.eval x) := by
  rw [Array.toList_map]

theorem go_build (hR : R ρ H w) (he : EnvRel ρ e a) {z : List C} {ps : List (Nat × Nat × Opd)} (ok : opOK P fids (.build z ps) o.op = true) (hev : evOp calls (.build z ps) e H k = some r) : Goes k r ρ H w P o a := by
  simp only [evOp] at hev
  obtain ⟨cs, h1, hk⟩ := Option.bind_some_inv hev
  cases ho : o.op <;> rw [ho] at ok <;> simp only [opOK] at ok <;> try contradiction
  rename_i t parts
  simp only [Bool.and_eq_true] at ok
  obtain ⟨o1, o2⟩ := ok
  obtain ⟨it, zz, hi, hz, hrel⟩ := zeroIs_spec o1
  have fin : ∀ vs' : Array Value, P.built t (parts.toList.map fun (i, x) => (i, a.eval x)) = some vs' → CsRel ρ cs vs'.toList → Goes k r ρ H w P o a := by
    intro vs' hb hc
    rw [← map_parts] at hb
    exact goes_same (s := Instr.build t (parts.map fun (i, x) => (i, a.eval x))) (by simp only [execOp, ho]) (run_build w t _ _ hb) hk ⟨vs'.toList, by simp, hc⟩ hR
  split at o2
  · rename_i fs hu
    split at o2
    · rename_i places hp
      obtain ⟨vs', g1, g2⟩ := fill_rel he o2 (hrel ρ) h1
      exact fin vs' (by simp only [Program.built, hi, hu, hz, hp, g1]) g2
    · cases o2
  · rename_i n el hu
    split at o2
    · rename_i j hj
      obtain ⟨vs', g1, g2⟩ := fill_rel he o2 (hrel ρ) h1
      exact fin vs' (by simp only [Program.built, hi, hu, hz, hj, g1]) g2
    · cases o2
  · cases o2

/-- A new block, of which the run is known. -/
theorem alloc_goes (hR : R ρ H w) {cs : List C} {vs : Array Value} {el : TypeId} {v : V} {v' : Value} {s : Sem Value} (hc : CsRel ρ cs vs.toList)
    (hx : execOp a.eval o = (do pure (Next.value (← s)))) (hs : s.run P w = .ok v' (w.alloc (.cells vs el)))
    (hv : ∀ ρ', ρ' H.length = some ⟨w.heap.size, 0, cs.length, cs.length, false⟩ → VRel ρ' v v')
    (hk : k v (H ++ [.cells cs .exact]) = some r) : Goes k r ρ H w P o a := by
  have hl := hc.length
  obtain ⟨r1, r2⟩ := hR.alloc (w' := w.alloc (.cells vs el)) cs .exact vs.toList el (0, 0) (by rw [Array.toArray_toList]; rfl) rfl rfl rfl
    (by rw [hl, List.take_length]; exact hc) (by omega) (fun _ => hl.symm) (by intro j _ h; exact absurd h (Nat.not_lt_zero _))
  intro next Q hn
  refine wp_sem hx hs (hn _ _ _ _ _ hk (hv _ ?_) r1 r2)
  rw [Rho.set_same, ← hl]
  simp

theorem bslice_run (he : EnvRel ρ e a) {t el : TypeId} {es len : Nat} {z cs : List C} {ps : List (Nat × Nat × Opd)} {parts : Array (Nat × Operand)} (hu : P.underlying t = some (.slice el)) (o1 : sizeIs P el es = true)
    (o3 : len * es ≤ 2 ^ 24) (o4 : 0 < es) (o5 : (match P.info? el with
      | some i => match i.zero with
        | some zz => decide (zz.cells.size = es) && csOK z ((Array.range (len * es)).map (zz.cells[· % zz.cells.size]!)).toList
        | none => false
      | none => false) = true) (o6 : partsOK (fun i => some (i * es, es)) ps parts.toList = true) (h1 : fillParts e z ps = some cs) :
    ∃ vs' : Array Value, CsRel ρ cs vs'.toList ∧ (Instr.buildSlice t len (parts.map fun (i, x) => (i, a.eval x))).run P w = .ok (.slice (some ⟨w.heap.size, 0, none⟩) len len) (w.alloc (.cells vs' el)) ∧ cs.length = len * es := by
  have hsz := run_size (w := w) o1
  split at o5
  · rename_i i hi
    split at o5
    · rename_i zz hz
      simp only [Bool.and_eq_true, decide_eq_true_eq] at o5
      have hrel := csOK_rel o5.2 ρ
      obtain ⟨vs', g1, g2⟩ := fill_rel he o6 hrel h1
      have hzv : (zeroValue el).run P w = .ok zz w := by simp [zeroValue, run_info hi, hz, Result.andThen]
      have hcl : cs.length = len * es := by
        have hfl : ∀ {ps : List (Nat × Nat × Opd)} {a b : List C}, fillParts e a ps = some b → b.length = a.length := by
          intro ps
          induction ps with
          | nil => intro a b h; cases h; rfl
          | cons p ps ih =>
            intro a b h
            obtain ⟨o', n', x'⟩ := p
            simp only [fillParts] at h
            split at h
            · obtain ⟨_, h2⟩ := cond_some_inv h
              rw [ih h2, setL_length]
            · obtain ⟨_, h2⟩ := cond_some_inv h
              rw [ih h2, setL_length]
            · cases h
        rw [hfl h1]
        have := hrel.length
        rw [this]; simp
      refine ⟨vs', g2, ?_, hcl⟩
      simp only [Instr.buildSlice, Sem.run_bind, run_underlying hu, Result.andThen, hsz, map_parts]
      rw [if_neg (by omega)]
      by_cases h0 : len * es = 0
      · have hl0 : len = 0 := by
          rcases Nat.mul_eq_zero.1 h0 with h | h
          · exact h
          · omega
        subst hl0
        have hr0 : Array.range (0 * es) = #[] := by rw [Nat.zero_mul]; rfl
        rw [hr0, Array.map_empty] at g1
        have hr1 : Array.range 0 = #[] := rfl
        simp only [Nat.zero_mul, if_true, Sem.run_bind, Sem.run_pure, Result.andThen, hr1, Array.map_empty]
        rw [show (parts.toList.map fun (x : Nat × Operand) => (x.fst, a.eval x.snd)) = parts.toList.map fun (i, x) => (i, a.eval x) from rfl, g1]
        rfl
      · rw [if_neg h0]
        simp only [Sem.run_bind, hzv, Result.andThen, Sem.run_pure, g1]
        rfl
    · cases o5
  · cases o5

theorem go_bslice (hR : R ρ H w) (he : EnvRel ρ e a) {es len : Nat} {z : List C} {ps : List (Nat × Nat × Opd)} (ok : opOK P fids (.bslice es len z ps) o.op = true) (hev : evOp calls (.bslice es len z ps) e H k = some r) : Goes k r ρ H w P o a := by
  simp only [evOp] at hev
  obtain ⟨cs, h1, hk⟩ := Option.bind_some_inv hev
  cases ho : o.op <;> rw [ho] at ok <;> simp only [opOK] at ok <;> try contradiction
  rename_i t len' parts
  split at ok
  · rename_i el hel
    have hu := elem_spec hel
    simp only [Bool.and_eq_true, decide_eq_true_eq] at ok
    obtain ⟨⟨⟨⟨⟨o1, rfl⟩, o3⟩, o4⟩, o5⟩, o6⟩ := ok
    obtain ⟨vs', g2, hrun, hcl⟩ := bslice_run (P := P) (w := w) he hu o1 o3 o4 o5 o6 h1
    have hexec : execOp a.eval o = (do pure (Next.value (← Instr.buildSlice t len (parts.map fun (i, x) => (i, a.eval x))))) := by simp only [execOp, ho]
    revert hexec hrun
    generalize Instr.buildSlice t len (parts.map fun (i, x) => (i, a.eval x)) = s
    intro hrun hexec
    refine alloc_goes hR g2 hexec hrun ?_ hk
    intro ρ' hρ
    have hsl : SlOK ⟨w.heap.size, 0, cs.length, cs.length, false⟩ es 0 len len ⟨w.heap.size, 0, none⟩ len :=
      ⟨rfl, rfl, Nat.le_refl _, by rw [hcl, Nat.zero_add]; exact Nat.le_refl _, .inl ⟨rfl, Nat.le_refl _, .inl rfl, by rw [hcl]; simp⟩⟩
    exact (⟨_, _, _, hρ, rfl, hsl⟩ : CRel ρ' (.sl es ⟨some (H.length, 0), len, len⟩) (.slice (some ⟨w.heap.size, 0, none⟩) len len))
  · cases ok

theorem CsRel.cut {cs xs : List C} {vs : List Value} {off n : Nat} (h : CsRel ρ cs vs) (hc : Ev.cut cs off n = some xs) : CsRel ρ xs ((vs.drop off).take n) ∧ off + n ≤ vs.length := by
  unfold Ev.cut at hc
  obtain ⟨h1, h2⟩ := cond_some_inv hc
  have h1 := of_decide_eq_true h1
  cases h2
  exact ⟨(h.drop off).take n, by rw [← h.length]; exact h1⟩

theorem extract_list (vs : List Value) (x y : Nat) : (vs.toArray.extract x y) = ((vs.drop x).take (y - x)).toArray := by
  simp [List.extract_toArray]

theorem go_field (hR : R ρ H w) (he : EnvRel ρ e a) {ty : Ty} {off : Nat} {x : Opd} (ok : opOK P fids (.field ty off x) o.op = true) (hev : evOp calls (.field ty off x) e H k = some r) : Goes k r ρ H w P o a := by
  simp only [evOp] at hev
  cases ho : o.op <;> rw [ho] at ok <;> simp only [opOK] at ok <;> try contradiction
  rename_i t y f
  simp only [Bool.and_eq_true] at ok
  obtain ⟨o1, o2⟩ := ok
  split at o2
  · rename_i fs hu
    split at o2
    · rename_i fl hfl
      simp only [Bool.and_eq_true, decide_eq_true_eq] at o2
      obtain ⟨rfl, o3⟩ := o2
      have hx := opd_rel he o1
      split at hev
      · rename_i cs e1
        rw [e1] at hx
        obtain ⟨vs, hv, hrel⟩ := hx
        cases ty with
        | one c =>
          obtain ⟨v, h1, h2⟩ := Option.bind_some_inv hev
          obtain ⟨v2, h3, hk⟩ := Option.bind_some_inv h2
          obtain ⟨u, g1, g2⟩ := hrel.get h1
          have hun := CT.un_mk h3
          simp only [tyOK, decide_eq_true_eq] at o3
          have hag := run_isAgg (w := w) o3
          refine goes_same (s := Instr.field t (a.eval y) f) (v' := u) (by simp only [execOp, ho]) ?_ hk (by rw [← hun]; exact g2) hR
          simp only [Instr.field, Sem.run_bind, run_underlying hu, Result.andThen, hfl, hv, asAgg, Sem.run_pure, part, hag]
          simp [g1]
        | agg ts =>
          obtain ⟨v, h1, h2⟩ := Option.bind_some_inv hev
          obtain ⟨v2, h3, hk⟩ := Option.bind_some_inv h2
          have hun := Tup.un_mk h3
          simp only [tyOK, Bool.and_eq_true, decide_eq_true_eq] at o3
          have hag := run_isAgg (w := w) o3.1
          have hsz := run_size (w := w) o3.2
          obtain ⟨g1, g2⟩ := hrel.cut h1
          refine goes_same (s := Instr.field t (a.eval y) f) (v' := .agg ((vs.drop fl.offset).take ts.length).toArray) (by simp only [execOp, ho]) ?_ hk ⟨_, rfl, by rw [← hun]; exact g1⟩ hR
          simp only [Instr.field, Sem.run_bind, run_underlying hu, Result.andThen, hfl, hv, asAgg, Sem.run_pure, part, hag, if_true, hsz, extract_list, Nat.add_sub_cancel_left]
      · cases hev
    · cases o2
  · cases o2

end
end Ev
namespace Ev
open Go

/-! The lists. -/
theorem mfind_some : ∀ {es : MEs} {k : Int} {q : W}, mfind es k = some q → ∃ e1 e2, es = e1 ++ (k, q) :: e2 ∧ mdrop es k = e1 ++ e2
  | [], _, _, h => by cases h
  | y :: r, k, q, h => by
    simp only [mfind] at h
    by_cases e : y.1 = k
    · rw [decide_eq_true e, cond_true] at h
      cases h
      exact ⟨[], r, by rw [← e]; rfl, by simp [mdrop, e]⟩
    · rw [decide_eq_false e, cond_false] at h
      obtain ⟨e1, e2, h1, h3⟩ := mfind_some h
      exact ⟨y :: e1, e2, by rw [h1]; rfl, by simp [mdrop, e, h3]⟩
theorem mfind_none : ∀ {es : MEs} {k : Int}, mfind es k = none → (∀ x ∈ es, x.1 ≠ k) ∧ mdrop es k = es
  | [], _, _ => ⟨by simp, rfl⟩
  | y :: r, k, h => by
    simp only [mfind] at h
    by_cases e : y.1 = k
    · rw [decide_eq_true e, cond_true] at h; cases h
    · rw [decide_eq_false e, cond_false] at h
      obtain ⟨h1, h2⟩ := mfind_none h
      refine ⟨fun x hx => ?_, by simp [mdrop, e, h2]⟩
      rcases List.mem_cons.1 hx with rfl | hx
      · exact e
      · exact h1 x hx
/-- Another value for a key that is there. -/
theorem mins_put : ∀ (e1 : MEs) {e2 : MEs} {k : Int} {q v : W}, (e1 ++ (k, q) :: e2).Pairwise (fun x y => x.1 < y.1) → mins (e1 ++ (k, q) :: e2) k v = e1 ++ (k, v) :: e2
  | [], e2, k, q, v, _ => by simp [mins]
  | y :: e1, e2, k, q, v, h => by
    have hy : y.1 < k := List.rel_of_pairwise_cons h (by simp : (k, q) ∈ e1 ++ (k, q) :: e2)
    have h1 : ¬ k < y.1 := by omega
    have h2 : ¬ y.1 = k := by omega
    simp [mins, h1, h2, mins_put e1 (List.Pairwise.of_cons h)]
theorem mins_split : ∀ (es : MEs) (k : Int) (v : W), es.Pairwise (fun x y => x.1 < y.1) → (∀ x ∈ es, x.1 ≠ k) → ∃ e1 e2, es = e1 ++ e2 ∧ mins es k v = e1 ++ (k, v) :: e2 ∧ (∀ x ∈ e1, x.1 < k) ∧ (∀ x ∈ e2, k < x.1)
  | [], k, v, _, _ => ⟨[], [], rfl, rfl, by simp, by simp⟩
  | y :: r, k, v, h, hn => by
    have hy := hn y (by simp)
    by_cases e : k < y.1
    · refine ⟨[], y :: r, rfl, by simp [mins, e], by simp, fun x hx => ?_⟩
      rcases List.mem_cons.1 hx with rfl | hx
      · exact e
      · exact Int.lt_trans e (List.rel_of_pairwise_cons h hx)
    · obtain ⟨e1, e2, h1, h2, h3, h4⟩ := mins_split r k v (List.Pairwise.of_cons h) (fun x hx => hn x (List.mem_cons_of_mem _ hx))
      refine ⟨y :: e1, e2, by rw [h1]; rfl, by simp [mins, e, hy, h2], fun x hx => ?_, h4⟩
      rcases List.mem_cons.1 hx with rfl | hx
      · omega
      · exact h3 x hx

section
variable {ρ : Rho}
theorem EsRel.split : ∀ {e1 : MEs} {x : Int × W} {e2 : MEs} {l : List MapEntry}, EsRel ρ (e1 ++ x :: e2) l → ∃ l1 e l2, l = l1 ++ e :: l2 ∧ EsRel ρ e1 l1 ∧ ERel ρ x e ∧ EsRel ρ e2 l2
  | [], x, e2, [], h => h.elim
  | [], x, e2, e :: l, ⟨h1, h2⟩ => ⟨[], e, l, rfl, trivial, h1, h2⟩
  | y :: e1, x, e2, [], h => h.elim
  | y :: e1, x, e2, f :: l, ⟨h1, h2⟩ => by
    obtain ⟨l1, e, l2, h3, h4, h5, h6⟩ := EsRel.split h2
    exact ⟨f :: l1, e, l2, by rw [h3]; rfl, ⟨h1, h4⟩, h5, h6⟩
theorem EsRel.cut : ∀ {e1 e2 : MEs} {l : List MapEntry}, EsRel ρ (e1 ++ e2) l → ∃ l1 l2, l = l1 ++ l2 ∧ EsRel ρ e1 l1 ∧ EsRel ρ e2 l2
  | [], e2, l, h => ⟨[], l, rfl, trivial, h⟩
  | y :: e1, e2, [], h => h.elim
  | y :: e1, e2, f :: l, ⟨h1, h2⟩ => by
    obtain ⟨l1, l2, h3, h4, h5⟩ := EsRel.cut h2
    exact ⟨f :: l1, l2, by rw [h3]; rfl, ⟨h1, h4⟩, h5⟩
theorem EsRel.join : ∀ {e1 e2 : MEs} {l1 l2 : List MapEntry}, EsRel ρ e1 l1 → EsRel ρ e2 l2 → EsRel ρ (e1 ++ e2) (l1 ++ l2)
  | [], _, [], _, _, h => h
  | _ :: _, _, _ :: _, _, ⟨a, b⟩, h => ⟨a, EsRel.join b h⟩
  | [], _, _ :: _, _, r, _ => r.elim
  | _ :: _, _, [], _, r, _ => r.elim
theorem EsRel.mem : ∀ {es : MEs} {l : List MapEntry}, EsRel ρ es l → ∀ e ∈ l, ∃ x ∈ es, ERel ρ x e
  | [], [], _, e, he => by simp at he
  | x :: r, f :: l, ⟨h1, h2⟩, e, he => by
    rcases List.mem_cons.1 he with rfl | he
    · exact ⟨x, by simp, h1⟩
    · obtain ⟨y, h3, h4⟩ := EsRel.mem h2 e he
      exact ⟨y, List.mem_cons_of_mem _ h3, h4⟩
  | [], _ :: _, h, _, _ => h.elim
  | _ :: _, [], h, _, _ => h.elim
theorem EsRel.length : ∀ {es : MEs} {l : List MapEntry}, EsRel ρ es l → es.length = l.length
  | [], [], _ => rfl
  | _ :: _, _ :: _, ⟨_, h⟩ => by simp [EsRel.length h]
  | [], _ :: _, h => h.elim
  | _ :: _, [], h => h.elim
theorem EsRel.pw {p : Int × W → Int × W → Prop} {q : MapEntry → MapEntry → Prop} (hpq : ∀ x y e f, ERel ρ x e → ERel ρ y f → p x y → q e f) : ∀ {es : MEs} {l : List MapEntry}, EsRel ρ es l → es.Pairwise p → l.Pairwise q
  | [], [], _, _ => List.Pairwise.nil
  | x :: r, e :: l, ⟨h1, h2⟩, h => by
    refine List.Pairwise.cons (fun f hf => ?_) (EsRel.pw hpq h2 (List.Pairwise.of_cons h))
    obtain ⟨y, h3, h4⟩ := h2.mem f hf
    exact hpq x y e f h1 h4 (List.rel_of_pairwise_cons h h3)
  | [], _ :: _, h, _ => h.elim
  | _ :: _, [], h, _ => h.elim
end

theorem pw_uniq {α β : Type} {f : α → β} : ∀ {l : List α}, l.Pairwise (fun x y => f x ≠ f y) → ∀ x ∈ l, ∀ y ∈ l, f x = f y → x = y
  | [], _, x, hx, _, _, _ => by simp at hx
  | z :: l, h, x, hx, y, hy, e => by
    rcases List.mem_cons.1 hx with hxz | hx'
    · rcases List.mem_cons.1 hy with hyz | hy'
      · exact hxz.trans hyz.symm
      · subst hxz; exact absurd e (List.rel_of_pairwise_cons h hy')
    · rcases List.mem_cons.1 hy with hyz | hy'
      · subst hyz; exact absurd e.symm (List.rel_of_pairwise_cons h hx')
      · exact pw_uniq (List.Pairwise.of_cons h) x hx' y hy' e

theorem perm_mid {α : Type} {a1 a2 l1 l2 : List α} {e : α} (h : (a1 ++ e :: a2).Perm (l1 ++ e :: l2)) : (a1 ++ a2).Perm (l1 ++ l2) :=
  List.Perm.cons_inv (List.perm_middle.symm.trans (h.trans List.perm_middle))
theorem perm_mid' {α : Type} {a1 a2 l1 l2 : List α} (e : α) (h : (a1 ++ a2).Perm (l1 ++ l2)) : (a1 ++ e :: a2).Perm (l1 ++ e :: l2) :=
  List.perm_middle.trans ((h.cons e).trans List.perm_middle.symm)

theorem modify_mid {α : Type} (f : α → α) : ∀ (a1 : List α) (e : α) (a2 : List α), (a1 ++ e :: a2).modify a1.length f = a1 ++ f e :: a2
  | [], _, _ => rfl
  | x :: a1, e, a2 => by simp [List.modify_succ_cons, modify_mid f a1]
theorem erase_mid {α : Type} : ∀ (a1 : List α) (e : α) (a2 : List α), (a1 ++ e :: a2).eraseIdx a1.length = a1 ++ a2
  | [], _, _ => rfl
  | x :: a1, e, a2 => by simp [List.eraseIdx_cons_succ, erase_mid a1]
theorem findIdx_mid {α : Type} {p : α → Bool} : ∀ (a1 : List α) (e : α) (a2 : List α), (∀ x ∈ a1, p x = false) → p e = true → (a1 ++ e :: a2).findIdx? p = some a1.length
  | [], e, a2, _, h => by simp [List.findIdx?_cons, h]
  | x :: a1, e, a2, h1, h => by
    rw [List.cons_append, List.findIdx?_cons, h1 x (by simp), findIdx_mid a1 e a2 (fun y hy => h1 y (List.mem_cons_of_mem _ hy)) h]
    rfl
theorem get_mid {α : Type} (a1 : List α) (e : α) (a2 : List α) : (a1 ++ e :: a2).toArray[a1.length]? = some e := by simp

section
variable {ρ : Rho} {pl : Pl} {es : MEs} {w : World}

theorem MpRel.keys (m : MpRel ρ pl es w) {l : List MapEntry} (h : EsRel ρ es l) : l.Pairwise fun e f => e.key ≠ f.key :=
  h.pw (fun x y e f h1 h2 h3 => by rw [h1.1, h2.1]; intro hh; injection hh with _ hh; omega) m.sorted

theorem isKey_of {l a : List MapEntry} (hp : a.Perm l) (h : EsRel ρ es l) : ∀ x ∈ a, MapKept.IsKey (.int .i64) x.key := by
  intro x hx
  obtain ⟨y, _, h2⟩ := h.mem x (hp.subset hx)
  rw [h2.1]
  rfl

/-- The entry of a key that is there. -/
theorem MpRel.find (m : MpRel ρ pl es w) {k : Int} {q : W} (hf : mfind es k = some q) :
    ∃ (e1 e2 : MEs) (a1 a2 : List MapEntry) (e : MapEntry) (l1 l2 : List MapEntry) (ck : Nat), es = e1 ++ (k, q) :: e2 ∧ mdrop es k = e1 ++ e2 ∧
      w.heap[pl.k]? = some (.map (a1 ++ e :: a2).toArray ck) ∧ Instr.findNow (.int .i64) (.int .i64 k) (a1 ++ e :: a2) 0 = some (some (a1.length, e.val)) ∧
      (a1 ++ a2).Perm (l1 ++ l2) ∧ EsRel ρ e1 l1 ∧ ERel ρ (k, q) e ∧ EsRel ρ e2 l2 ∧ ((l1 ++ e :: l2).Pairwise fun e f => e.born ≠ f.born) ∧ ∀ e' ∈ l1 ++ e :: l2, e'.born < ck := by
  obtain ⟨ents, l, ck, h1, h2, h3, hb1, hb2⟩ := m.ex
  obtain ⟨e1, e2, g1, g3⟩ := mfind_some hf
  have hkeys := m.keys h3
  have h3' := h3
  rw [g1] at h3'
  obtain ⟨l1, e, l2, q1, q2, q3, q4⟩ := h3'.split
  have hel : e ∈ l := by rw [q1]; simp
  rcases MapKept.findNow_spec (d := .int .i64) (k := .int .i64 k) rfl ents.toList 0 (isKey_of h2 h3) with ⟨_, n2⟩ | ⟨j, e', n1, n2, n3⟩
  · exact absurd q3.1 (n2 e (h2.symm.subset hel))
  · have he' : e' ∈ l := h2.subset (List.mem_of_getElem? n2)
    have := pw_uniq (f := MapEntry.key) hkeys e' he' e hel (n3.trans q3.1.symm)
    subst this
    obtain ⟨hj, hje⟩ := List.getElem?_eq_some_iff.1 n2
    have hsplit : ents.toList = ents.toList.take j ++ e' :: ents.toList.drop (j + 1) := by
      rw [← hje, List.getElem_cons_drop, List.take_append_drop]
    have hlen : (ents.toList.take j).length = j := by rw [List.length_take]; omega
    generalize hA1 : ents.toList.take j = a1 at hsplit hlen
    generalize hA2 : ents.toList.drop (j + 1) = a2 at hsplit
    have hents : ents = (a1 ++ e' :: a2).toArray := by apply Array.ext'; simpa using hsplit
    refine ⟨e1, e2, a1, a2, e', l1, l2, ck, g1, g3, by rw [← hents]; exact h1, ?_, ?_, q2, q3, q4, by rw [← q1]; exact hb1, by rw [← q1]; exact hb2⟩
    · rw [hlen, ← hsplit, n1, Nat.zero_add]
    · rw [hsplit, q1] at h2
      exact perm_mid h2
theorem MpRel.nofind (m : MpRel ρ pl es w) {k : Int} (hf : mfind es k = none) :
    ∃ (a l : List MapEntry) (ck : Nat), w.heap[pl.k]? = some (.map a.toArray ck) ∧ Instr.findNow (.int .i64) (.int .i64 k) a 0 = some none ∧ a.Perm l ∧ EsRel ρ es l ∧ (l.Pairwise fun e f => e.born ≠ f.born) ∧ ∀ e ∈ l, e.born < ck := by
  obtain ⟨ents, l, ck, h1, h2, h3, hb1, hb2⟩ := m.ex
  obtain ⟨g1, _⟩ := mfind_none hf
  refine ⟨ents.toList, l, ck, by rw [Array.toArray_toList]; exact h1, ?_, h2, h3, hb1, hb2⟩
  rcases MapKept.findNow_spec (d := .int .i64) (k := .int .i64 k) rfl ents.toList 0 (isKey_of h2 h3) with ⟨n1, _⟩ | ⟨j, e', n1, n2, n3⟩
  · exact n1
  · obtain ⟨x, hx, hr⟩ := h3.mem e' (h2.subset (List.mem_of_getElem? n2))
    rw [hr.1] at n3
    cases n3
    exact absurd rfl (g1 x hx)

theorem pw_key {e1 e2 : MEs} {k : Int} {v v' : W} (h : (e1 ++ (k, v) :: e2).Pairwise fun x y => x.1 < y.1) : (e1 ++ (k, v') :: e2).Pairwise fun x y => x.1 < y.1 := by
  rw [List.pairwise_append, List.pairwise_cons] at *
  refine ⟨h.1, h.2.1, fun x hx y hy => ?_⟩
  rcases List.mem_cons.1 hy with rfl | hy
  · exact h.2.2 x hx (k, v) (by simp)
  · exact h.2.2 x hx y (by simp [hy])
/-- Stamps. -/
theorem pw_born {l1 l2 : List MapEntry} {e e' : MapEntry} (hb : e'.born = e.born) (h : (l1 ++ e :: l2).Pairwise fun e f => e.born ≠ f.born) : (l1 ++ e' :: l2).Pairwise fun e f => e.born ≠ f.born := by
  rw [List.pairwise_append, List.pairwise_cons] at *
  refine ⟨h.1, ⟨fun x hx => by rw [hb]; exact h.2.1.1 x hx, h.2.1.2⟩, fun x hx y hy => ?_⟩
  rcases List.mem_cons.1 hy with rfl | hy
  · rw [hb]; exact h.2.2 x hx e (by simp)
  · exact h.2.2 x hx y (by simp [hy])

/-- Another value. -/
theorem MpRel.put (m : MpRel ρ pl es w) {e1 e2 : MEs} {k : Int} {v x : W} {a1 a2 l1 l2 : List MapEntry} {e e' : MapEntry} {ck : Nat} {w' : World} (hes : es = e1 ++ (k, v) :: e2)
    (hp : (a1 ++ a2).Perm (l1 ++ l2)) (h1 : EsRel ρ e1 l1) (h2 : EsRel ρ e2 l2) (hb1 : (l1 ++ e :: l2).Pairwise fun e f => e.born ≠ f.born) (hb2 : ∀ e' ∈ l1 ++ e :: l2, e'.born < ck)
    (he : ERel ρ (k, x) e') (hb : e'.born = e.born) (hw : w'.heap[pl.k]? = some (.map (a1 ++ e' :: a2).toArray ck)) :
    MpRel ρ pl (e1 ++ (k, x) :: e2) w' := by
  have s1 := m.sorted
  rw [hes] at s1
  refine ⟨⟨_, l1 ++ e' :: l2, ck, hw, by simpa using perm_mid' e' hp, h1.join ⟨he, h2⟩, pw_born hb hb1, fun y hy => ?_⟩, pw_key s1⟩
  rcases List.mem_append.1 hy with hy | hy
  · exact hb2 y (by simp [hy])
  · rcases List.mem_cons.1 hy with rfl | hy
    · rw [hb]; exact hb2 e (by simp)
    · exact hb2 y (by simp [hy])
/-- A key less. -/
theorem MpRel.drop (m : MpRel ρ pl es w) {e1 e2 : MEs} {k : Int} {v : W} {a1 a2 l1 l2 : List MapEntry} {e : MapEntry} {ck : Nat} {w' : World} (hes : es = e1 ++ (k, v) :: e2)
    (hp : (a1 ++ a2).Perm (l1 ++ l2)) (h1 : EsRel ρ e1 l1) (h2 : EsRel ρ e2 l2) (hb1 : (l1 ++ e :: l2).Pairwise fun e f => e.born ≠ f.born) (hb2 : ∀ e' ∈ l1 ++ e :: l2, e'.born < ck)
    (hw : w'.heap[pl.k]? = some (.map (a1 ++ a2).toArray ck)) :
    MpRel ρ pl (e1 ++ e2) w' := by
  have s1 := m.sorted
  rw [hes] at s1
  have hsub : (e1 ++ e2).Sublist (e1 ++ (k, v) :: e2) := List.Sublist.append (List.Sublist.refl _) (List.sublist_cons_self _ _)
  have hsub' : (l1 ++ l2).Sublist (l1 ++ e :: l2) := List.Sublist.append (List.Sublist.refl _) (List.sublist_cons_self _ _)
  exact ⟨⟨_, l1 ++ l2, ck, hw, by simpa using hp, h1.join h2, hb1.sublist hsub', fun y hy => hb2 y (hsub'.subset hy)⟩, s1.sublist hsub⟩
/-- A key more. -/
theorem MpRel.ins (m : MpRel ρ pl es w) {k : Int} {x : W} {a l : List MapEntry} {e : MapEntry} {ck : Nat} {w' : World} (hf : mfind es k = none)
    (hp : a.Perm l) (h1 : EsRel ρ es l) (hb1 : l.Pairwise fun e f => e.born ≠ f.born) (hb2 : ∀ e ∈ l, e.born < ck) (he : e.key = .int .i64 k ∧ WRel ρ x e.val ∧ e.born = ck) (hw : w'.heap[pl.k]? = some (.map (a ++ [e]).toArray (ck + 1))) :
    MpRel ρ pl (mins es k x) w' := by
  obtain ⟨g1, _⟩ := mfind_none hf
  obtain ⟨e1, e2, q1, q2, q3, q4⟩ := mins_split es k x m.sorted g1
  have s1 := m.sorted
  rw [q1] at h1 s1
  obtain ⟨l1, l2, r1, r2, r3⟩ := h1.cut
  subst r1
  rw [q2]
  refine ⟨⟨_, l1 ++ e :: l2, ck + 1, hw, ?_, r2.join ⟨⟨he.1, he.2.1⟩, r3⟩, ?_, fun y hy => ?_⟩, ?_⟩
  · have h0 : (a ++ []).Perm (l1 ++ l2) := by rw [List.append_nil]; exact hp
    simpa using perm_mid' e h0
  · rw [List.pairwise_append] at hb1
    rw [List.pairwise_append, List.pairwise_cons]
    refine ⟨hb1.1, ⟨fun y hy => ?_, hb1.2.1⟩, fun y hy z hz => ?_⟩
    · have := hb2 y (by simp [hy]); rw [he.2.2]; omega
    · rcases List.mem_cons.1 hz with rfl | hz
      · have := hb2 y (by simp [hy]); rw [he.2.2]; omega
      · exact hb1.2.2 y hy z hz
  · rcases List.mem_append.1 hy with hy | hy
    · have := hb2 y (by simp [hy]); omega
    · rcases List.mem_cons.1 hy with rfl | hy
      · rw [he.2.2]; omega
      · have := hb2 y (by simp [hy]); omega
  · rw [List.pairwise_append] at s1
    rw [List.pairwise_append, List.pairwise_cons]
    refine ⟨s1.1, ⟨fun y hy => q4 y hy, s1.2.1⟩, fun y hy z hz => ?_⟩
    rcases List.mem_cons.1 hz with rfl | hz
    · exact q3 y hy
    · exact s1.2.2 y hy z hz

/-- A map that turns. -/
theorem R.setMp {H : Heap} (r : R ρ H w) {ck : Nat} {b : Nat} {o : Obj} {es' : MEs} {ck' : Nat} (hρ : ρ b = some pl) (hb : H[b]? = some (.mp es ck)) (hm : MpRel ρ pl es' (putRow w pl.k o)) (hst : MapStep es ck es' ck' (w.heap[pl.k]?) (some o)) :
    R ρ (H.set b (.mp es' ck')) (putRow w pl.k o) ∧ Ext ρ H w ρ (H.set b (.mp es' ck')) (putRow w pl.k o) := by
  have hblt := r.dom _ _ hρ
  have m := r.mp b pl es ck hρ hb
  have hold : ∀ k, k ≠ pl.k → (putRow w pl.k o).heap[k]? = w.heap[k]? := fun k hk => by
    simp only [putRow]
    rw [Array.getElem?_setIfInBounds_ne (Ne.symm hk)]
  have goc : ∀ (x : Nat) (a : List C) (k : BK), (H.set b (.mp es' ck'))[x]? = some (.cells a k) → H[x]? = some (.cells a k) := by
    intro x a k h
    by_cases e : x = b
    · subst e; rw [List.getElem?_set_self hblt] at h; cases h
    · rwa [List.getElem?_set_ne (Ne.symm e)] at h
  have gom : ∀ (x : Nat) (e1 : MEs) (c1 : Nat), (H.set b (.mp es' ck'))[x]? = some (.mp e1 c1) → (x = b ∧ e1 = es' ∧ c1 = ck') ∨ (x ≠ b ∧ H[x]? = some (.mp e1 c1)) := by
    intro x e1 c1 h
    by_cases e : x = b
    · subst e; rw [List.getElem?_set_self hblt] at h; cases h; exact .inl ⟨rfl, rfl, rfl⟩
    · rw [List.getElem?_set_ne (Ne.symm e)] at h; exact .inr ⟨e, h⟩
  have gom' : ∀ (x : Nat) (e1 : MEs) (c1 : Nat), (H.set b (.mp es' ck'))[x]? = some (.mp e1 c1) → ∃ e1 c1, H[x]? = some (.mp e1 c1) := by
    intro x e1 c1 h
    rcases gom x e1 c1 h with ⟨rfl, _, _⟩ | ⟨_, h⟩
    · exact ⟨_, _, hb⟩
    · exact ⟨_, _, h⟩
  refine ⟨⟨fun x p h => by simpa using r.dom x p h, ?_, ?_, ?_, ?_⟩, ⟨Rho.le_refl _, by simp, fun b pl h h' => by simp [h] at h', ?_, by simp [putRow], rfl, rfl, rfl, ?_, ?_⟩⟩
  · intro x p acs bk h h'
    have q := r.blk x p acs bk h (goc x acs bk h')
    exact q.world (hold _ (fun e => m.apart q e.symm))
  · intro x y p p' a a' k k' hne g1 g2 g3 g4 hr
    exact r.sep x y p p' a a' k k' hne g1 g2 (goc _ _ _ g3) (goc _ _ _ g4) hr
  · intro x p e1 c1 h h'
    rcases gom x e1 c1 h' with ⟨rfl, rfl, rfl⟩ | ⟨hne, h'⟩
    · rw [hρ] at h; cases h; exact hm
    · exact (r.mp x p e1 c1 h h').world (hold _ (fun e => r.sepm x b p pl e1 es c1 ck hne h hρ h' hb e))
  · intro x y p p' e1 e2 c1 c2 hne g1 g2 g3 g4
    obtain ⟨_, _, g3⟩ := gom' _ _ _ g3
    obtain ⟨_, _, g4⟩ := gom' _ _ _ g4
    exact r.sepm x y p p' _ _ _ _ hne g1 g2 g3 g4
  · rintro x hx (⟨a, k, h, h'⟩ | ⟨e1, c1, h⟩)
    · exact .inl ⟨a, k, goc _ _ _ h, h'⟩
    · exact .inr (gom' _ _ _ h)
  · intro j hj hno
    exact hold j (fun e => hno b pl hρ e.symm (.inr ⟨es, ck, hb⟩))
  · intro x p e1 c1 h1 h2
    by_cases e : x = b
    · subst e
      rw [hρ] at h1; cases h1
      rw [hb] at h2; cases h2
      exact ⟨es', ck', List.getElem?_set_self hblt, by rw [show (putRow w pl.k o).heap[pl.k]? = some o from by simp only [putRow]; rw [Array.getElem?_setIfInBounds_self_of_lt m.lt]]; exact hst⟩
    · exact ⟨e1, c1, by rw [List.getElem?_set_ne (Ne.symm e)]; exact h2, MapStep.same (r.mp x p e1 c1 h1 h2) (hold _ (fun hh => r.sepm x b p pl e1 es c1 ck e h1 hρ h2 hb hh))⟩

/-- A map more. -/
theorem R.newMp {H : Heap} (r : R ρ H w) : R (ρ.set H.length ⟨w.heap.size, 0, 0, 0, false⟩) (H ++ [.mp [] 0]) (w.alloc (.map #[] 0)) ∧
    Ext ρ H w (ρ.set H.length ⟨w.heap.size, 0, 0, 0, false⟩) (H ++ [.mp [] 0]) (w.alloc (.map #[] 0)) := by
  have hn := r.none_of_len
  have hle := Rho.le_set ⟨w.heap.size, 0, 0, 0, false⟩ hn
  have hw : (w.alloc (.map #[] 0)).heap = w.heap.push (.map #[] 0) := rfl
  have hold : ∀ k, k < w.heap.size → (w.alloc (.map #[] 0)).heap[k]? = w.heap[k]? := fun k hk => by rw [hw, getElem?_push_lt _ _ hk]
  have goc : ∀ (x : Nat) (a : List C) (k : BK), (H ++ [Blk.mp [] 0])[x]? = some (.cells a k) → x < H.length ∧ H[x]? = some (.cells a k) := by
    intro x a k h
    rcases Nat.lt_or_ge x H.length with hx | hx
    · rw [List.getElem?_append_left hx] at h; exact ⟨hx, h⟩
    · rw [List.getElem?_append_right hx] at h
      cases hc : x - H.length <;> simp [hc] at h
  have gom : ∀ (x : Nat) (e1 : MEs) (c1 : Nat), (H ++ [Blk.mp [] 0])[x]? = some (.mp e1 c1) → (x = H.length ∧ e1 = [] ∧ c1 = 0) ∨ (x < H.length ∧ H[x]? = some (.mp e1 c1)) := by
    intro x e1 c1 h
    rcases Nat.lt_or_ge x H.length with hx | hx
    · rw [List.getElem?_append_left hx] at h; exact .inr ⟨hx, h⟩
    · rw [List.getElem?_append_right hx] at h
      cases hc : x - H.length with
      | zero => simp [hc] at h; exact .inl ⟨by omega, h.1, h.2.symm⟩
      | succ n => simp [hc] at h
  refine ⟨⟨?_, ?_, ?_, ?_, ?_⟩, ⟨hle, by simp, ?_, fun b hb h => wrB_left hb h, by rw [hw]; simp, rfl, rfl, rfl, fun k hk _ => hold k hk, fun b pl es dc h1 h2 => ⟨es, dc, by rw [List.getElem?_append_left (r.dom _ _ h1)]; exact h2, MapStep.same (r.mp b pl es dc h1 h2) (hold _ (r.mp b pl es dc h1 h2).lt)⟩⟩⟩
  · intro b pl h
    by_cases e : b = H.length
    · subst e; simp
    · rw [Rho.set_other _ _ e] at h
      have := r.dom _ _ h
      simp; omega
  · intro b pl acs bk h1 h2
    obtain ⟨hb, h2⟩ := goc _ _ _ h2
    rw [Rho.set_other _ _ (by omega)] at h1
    have q := r.blk b pl acs bk h1 h2
    exact (q.world (hold _ q.lt)).mono hle
  · intro b b' pl pl' a1 a2 k1 k2 hne h1 h1' h2 h2' hr
    obtain ⟨hb, h2⟩ := goc _ _ _ h2
    obtain ⟨hb', h2'⟩ := goc _ _ _ h2'
    rw [Rho.set_other _ _ (by omega)] at h1 h1'
    exact r.sep b b' pl pl' a1 a2 k1 k2 hne h1 h1' h2 h2' hr
  · intro b pl e1 c1 h1 h2
    rcases gom _ _ _ h2 with ⟨rfl, rfl, rfl⟩ | ⟨hb, h2⟩
    · rw [Rho.set_same] at h1
      cases h1
      exact ⟨⟨#[], [], 0, by rw [hw]; simp, List.Perm.refl _, trivial, List.Pairwise.nil, by simp⟩, List.Pairwise.nil⟩
    · rw [Rho.set_other _ _ (by omega)] at h1
      have q := r.mp b pl e1 c1 h1 h2
      exact (q.world (hold _ q.lt)).mono hle
  · intro b b' pl pl' e1 e2 c1 c2 hne h1 h1' h2 h2'
    rcases gom _ _ _ h2 with ⟨rfl, rfl, rfl⟩ | ⟨hb, h2⟩
    · rcases gom _ _ _ h2' with ⟨rfl, rfl, rfl⟩ | ⟨hb', h2'⟩
      · exact absurd rfl hne
      · rw [Rho.set_same] at h1
        cases h1
        rw [Rho.set_other _ _ (by omega)] at h1'
        have := (r.mp b' pl' e2 c2 h1' h2').lt
        simp; omega
    · rw [Rho.set_other _ _ (by omega)] at h1
      rcases gom _ _ _ h2' with ⟨rfl, rfl, rfl⟩ | ⟨hb', h2'⟩
      · rw [Rho.set_same] at h1'
        cases h1'
        have := (r.mp b pl e1 c1 h1 h2).lt
        simp; omega
      · rw [Rho.set_other _ _ (by omega)] at h1'
        exact r.sepm b b' pl pl' e1 e2 c1 c2 hne h1 h1' h2 h2'
  · intro b pl h1 h2
    by_cases e : b = H.length
    · subst e
      rw [Rho.set_same] at h1
      cases h1
      exact ⟨Nat.le_refl _, .inl (Nat.le_refl _)⟩
    · rw [Rho.set_other _ _ e] at h1
      rw [h1] at h2; cases h2
end
end Ev
namespace Ev
open Go
section
variable {P : Program} {o : Oper} {a : Act} {w : World} {next : Act → World → Prop} {Q : Exit → Act → World → Prop}
variable {R0 : Type} {k : V → Heap → Option R0} {r : R0} {ρ : Rho} {H : Heap} {e : Env} {calls : Nat → Option Callee} {fids : Nat → Option FuncId}

theorem mapElem_inv {t et : TypeId} (h : mapElem P t = some et) : ∃ kt, P.underlying t = some (.map kt et) ∧ P.underlying kt = some (.int .i64) := by
  unfold mapElem at h
  split at h
  · rename_i kt et' h1
    split at h
    · rename_i h2; cases h; exact ⟨kt, h1, h2⟩
    · cases h
  · cases h
theorem zeroW_run {t : TypeId} {x : W} (h : zeroW P t x = true) : ∃ z, (zeroValue t).run P w = .ok z w ∧ ∀ ρ, WRel ρ x z := by
  unfold zeroW at h
  split at h
  · rename_i i hi
    split at h
    · rename_i z hz
      exact ⟨z, by simp [zeroValue, run_info hi, hz, Result.andThen], fun ρ => wOK_rel h ρ⟩
    · cases h
  · cases h
theorem mpAt_some {b : Nat} {p : MEs × Nat} (h : H.mpAt b = some p) : H[b]? = some (.mp p.1 p.2) := by
  unfold Heap.mpAt at h
  split at h
  · rename_i es ck hb; cases h; exact hb
  · cases h
theorem isKey_i (n : Int) : MapKept.IsKey (.int .i64) (.int .i64 n) := rfl

theorem go_mkm (hR : R ρ H w) (ok : opOK P fids .mkm o.op = true) (hev : evOp calls .mkm e H k = some r) : Goes k r ρ H w P o a := by
  simp only [evOp] at hev
  cases ho : o.op <;> rw [ho] at ok <;> simp only [opOK] at ok <;> try contradiction
  rename_i t res
  cases res with
  | some y => simp at ok
  | none =>
    obtain ⟨r1, r2⟩ := hR.newMp
    intro next Q hn
    refine wp_sem (s := Instr.makeMap t none) (v := .map (some w.heap.size)) (by simp [execOp, ho]) (by simp [Instr.makeMap, Result.andThen]) (hn _ _ _ _ _ hev ?_ r1 r2)
    exact (⟨_, Rho.set_same _ _ _, rfl⟩ : CRel _ (.mp (some H.length)) _)

theorem go_mget (hR : R ρ H w) (he : EnvRel ρ e a) {ty : Ty} {zero : W} {is : Bool} {m i : Opd} (ok : opOK P fids (.mget ty zero is m i) o.op = true) (hev : evOp calls (.mget ty zero is m i) e H k = some r) : Goes k r ρ H w P o a := by
  simp only [evOp] at hev
  cases ho : o.op <;> rw [ho] at ok <;> simp only [opOK] at ok <;> try contradiction
  rename_i t x y is'
  simp only [Bool.and_eq_true, decide_eq_true_eq] at ok
  obtain ⟨⟨⟨o1, o2⟩, rfl⟩, o4⟩ := ok
  have h1 := opd_rel he o1
  have h2 := opd_rel he o2
  split at o4
  · rename_i et het
    obtain ⟨kt, u1, u2⟩ := mapElem_inv het
    obtain ⟨z, hz, hzr⟩ := zeroW_run (w := w) o4
    split at hev
    · rename_i mm n e1 e2
      obtain ⟨p, hp, hk⟩ := Option.bind_some_inv hev
      rw [e1] at h1
      have hn := vrel_int h2 e2
      unfold mget at hp
      obtain ⟨oo, g1, hp⟩ := Option.bind_some_inv hp
      obtain ⟨v, g3, g4⟩ := Option.bind_some_inv hp
      cases g4
      have hx := Ty.un_mk g3
      have main : ∀ (u : Value), (Instr.lookup t (a.eval x) (a.eval y) is).run P w = .ok (if is then .tuple #[u, .bool oo.isSome] else u) w → WRel ρ (oo.getD zero) u → Goes k r ρ H w P o a := by
        intro u hu hr
        rw [hx] at hr
        cases is with
        | true => exact goes_same (s := Instr.lookup t (a.eval x) (a.eval y) true) (by simp [execOp, ho]) hu hk ⟨[u, .bool oo.isSome], rfl, hr, rfl, trivial⟩ hR
        | false => exact goes_same (s := Instr.lookup t (a.eval x) (a.eval y) false) (by simp [execOp, ho]) hu hk hr hR
      cases mm with
      | none =>
        cases g1
        have hv : a.eval x = .map none := h1
        refine main z ?_ (hzr ρ)
        have hf : (Instr.findKey kt (.int .i64 n) []).run P w = .ok none w := MapKept.run_findKey u2 rfl
        simp only [Instr.lookup, Sem.run_bind, run_underlying u1, Result.andThen, hv, hn, Sem.run_pure, MapKept.run_checkKey u2 (isKey_i n), hf, hz]
        rfl
      | some b =>
        obtain ⟨q, g2, g4⟩ := Option.bind_some_inv g1
        cases g4
        obtain ⟨pl, q1, q2⟩ := (h1 : CRel ρ (.mp (some b)) _)
        have hm := hR.mp b pl q.1 q.2 q1 (mpAt_some g2)
        cases hf : mfind q.1 n with
        | none =>
          obtain ⟨al, l, ck, c1, c2, _, _⟩ := hm.nofind hf
          refine main z ?_ (by rw [hf] at *; exact hzr ρ)
          simp only [Instr.lookup, Sem.run_bind, run_underlying u1, Result.andThen, q2, hn, MapKept.run_getObj_map c1, Sem.run_pure, MapKept.run_checkKey u2 (isKey_i n), MapKept.run_findKey u2 c2, hz]
          rw [hf]; rfl
        | some qq =>
          obtain ⟨e1', e2', a1, a2, ee, l1, l2, ck, c1, c2, c4, c5, c6, c7, c9, c10, c11⟩ := hm.find hf
          refine main ee.val ?_ (by rw [hf] at *; exact c9.2)
          simp only [Instr.lookup, Sem.run_bind, run_underlying u1, Result.andThen, q2, hn, MapKept.run_getObj_map c4, Sem.run_pure, MapKept.run_checkKey u2 (isKey_i n), MapKept.run_findKey u2 c5]
          rw [hf]; rfl
    · cases hev
  · cases o4

theorem same_key (n : Int) : (Instr.keyThatStays (.int .i64 n) (.int .i64 n)).run P w = .ok (.int .i64 n) w := by
  simp [Instr.keyThatStays, Instr.sameBits]
theorem modify_arr {a1 a2 : List MapEntry} {e : MapEntry} (f : MapEntry → MapEntry) : (a1 ++ e :: a2).toArray.modify a1.length f = (a1 ++ f e :: a2).toArray := by
  apply Array.ext'
  rw [Array.toList_modify]
  exact modify_mid f a1 e a2

theorem mset_run (hR : R ρ H w) {t et : TypeId} (het : mapElem P t = some et) {b : Nat} {pl : Pl} (hρ : ρ b = some pl) {q : MEs × Nat} (hq : H.mpAt b = some q) {n : Int} {x : W} {v : Value} (hv : WRel ρ x v) :
    ∃ w', (Instr.mapUpdate t (.map (some pl.k)) (.int .i64 n) v).run P w = .ok () w' ∧ R ρ (H.set b (.mp (mins q.1 n x) q.2)) w' ∧ Ext ρ H w ρ (H.set b (.mp (mins q.1 n x) q.2)) w' := by
  obtain ⟨kt, u1, u2⟩ := mapElem_inv het
  have hb := mpAt_some hq
  have hm := hR.mp b pl q.1 q.2 hρ hb
  cases hf : mfind q.1 n with
  | none =>
    obtain ⟨al, l, ck, c1, c2, c3, c4, c5, c6⟩ := hm.nofind hf
    have hnew := hm.ins (w' := putRow w pl.k (.map (al ++ [({ key := .int .i64 n, val := v, born := ck } : MapEntry)]).toArray (ck + 1))) (e := { key := .int .i64 n, val := v, born := ck }) hf c3 c4 c5 c6 ⟨rfl, hv, rfl⟩ (putRow_get _ c1)
    obtain ⟨e1, e2, g1, g2, _⟩ := mins_split q.1 n x hm.sorted (mfind_none hf).1
    have hlen : (mins q.1 n x).length = q.1.length + 1 := by
      rw [g2]
      have := congrArg List.length g1
      rw [List.length_append] at this
      rw [List.length_append, List.length_cons]; omega
    obtain ⟨r1, r2⟩ := hR.setMp hρ hb hnew ⟨Nat.le_refl _, fun _ => ⟨by omega, fun h => by omega⟩⟩
    refine ⟨_, ?_, r1, r2⟩
    simp only [Instr.mapUpdate, Sem.run_bind, run_underlying u1, Result.andThen, MapKept.run_getObj_map c1, MapKept.run_checkKey u2 (isKey_i n), MapKept.run_findKey u2 c2]
    rw [MapKept.run_setObj_map _ c1]
    simp [putRow]
  | some qq =>
    obtain ⟨e1', e2', a1, a2, ee, l1, l2, ck, c1, c2, c4, c5, c6, c7, c9, c10, c11, c12⟩ := hm.find hf
    have hnew := hm.put (w' := putRow w pl.k (.map (a1 ++ ({ ee with key := .int .i64 n, val := v } : MapEntry) :: a2).toArray ck)) (x := x) c1 c6 c7 c10 c11 c12 (e' := { ee with key := .int .i64 n, val := v }) ⟨rfl, hv⟩ rfl (putRow_get _ c4)
    have hs := hm.sorted
    rw [c1] at hs
    have hins : mins q.1 n x = e1' ++ (n, x) :: e2' := by rw [c1]; exact mins_put e1' hs
    rw [← hins] at hnew
    have hk : ee.key = .int .i64 n := c9.1
    obtain ⟨r1, r2⟩ := hR.setMp hρ hb hnew ⟨Nat.le_refl _, fun _ => ⟨by rw [hins, c1]; simp, fun _ => ⟨_, _, ck, c4, rfl, by simp [hk]⟩⟩⟩
    refine ⟨_, ?_, r1, r2⟩
    simp only [Instr.mapUpdate, Sem.run_bind, run_underlying u1, Result.andThen, MapKept.run_getObj_map c4, MapKept.run_checkKey u2 (isKey_i n), MapKept.run_findKey u2 c5, get_mid, Option.map_some, Option.getD_some, hk, same_key]
    rw [MapKept.run_setObj_map _ c4, modify_arr]
    rfl

theorem go_mset (hR : R ρ H w) (he : EnvRel ρ e a) {m i x : Opd} (ok : opOK P fids (.mset m i x) o.op = true) (hev : evOp calls (.mset m i x) e H k = some r) : Goes k r ρ H w P o a := by
  simp only [evOp] at hev
  have main : ∀ (t : TypeId) (m' i' x' : Operand), (execOp a.eval o = do let _ ← Instr.mapUpdate t (a.eval m') (a.eval i') (a.eval x'); pure .skip) → (opdOK m m' && opdOK i i' && opdOK x x' && (mapElem P t).isSome) = true → Goes k r ρ H w P o a := by
    intro t m' i' x' hx ok
    simp only [Bool.and_eq_true] at ok
    obtain ⟨⟨⟨o1, o2⟩, o3⟩, o4⟩ := ok
    obtain ⟨et, het⟩ := Option.isSome_iff_exists.1 o4
    have h1 := opd_rel he o1
    have h2 := opd_rel he o2
    have h3 := opd_rel he o3
    split at hev
    · rename_i mm n xx e1 e2 e3
      obtain ⟨H', hs0, hk⟩ := Option.bind_some_inv hev
      unfold mset at hs0
      obtain ⟨b, rfl, hs1⟩ := Option.bind_some_inv hs0
      obtain ⟨q, hq, hs⟩ := Option.bind_some_inv hs1
      cases hs
      rw [e1] at h1
      rw [e3] at h3
      obtain ⟨pl, g1, g2⟩ := (h1 : CRel ρ (.mp (some b)) _)
      have hn := vrel_int h2 e2
      obtain ⟨w', r0, r1, r2⟩ := mset_run (P := P) hR het g1 hq (n := n) (h3 : WRel ρ xx (a.eval x'))
      intro next Q hnx
      refine wp_skip' (w' := w') ?_ (hnx _ _ _ _ _ hk trivial r1 r2)
      rw [hx, g2, hn]
      simp only [Sem.run_bind, r0, Result.andThen, Sem.run_pure]
    · cases hev
  cases ho : o.op <;> rw [ho] at ok <;> simp only [opOK] at ok <;> try contradiction
  · exact main _ _ _ _ (by simp [execOp, ho]) ok
  · exact main _ _ _ _ (by simp [execOp, ho]) ok

theorem erase_arr {a1 a2 : List MapEntry} {e : MapEntry} : (a1 ++ e :: a2).toArray.eraseIdxIfInBounds a1.length = (a1 ++ a2).toArray := by
  unfold Array.eraseIdxIfInBounds
  rw [dif_pos (by simp)]
  apply Array.ext'
  rw [Array.toList_eraseIdx]
  exact erase_mid a1 e a2

theorem go_mdel (hR : R ρ H w) (he : EnvRel ρ e a) {m i : Opd} (ok : opOK P fids (.mdel m i) o.op = true) (hev : evOp calls (.mdel m i) e H k = some r) : Goes k r ρ H w P o a := by
  simp only [evOp] at hev
  cases ho : o.op <;> rw [ho] at ok <;> simp only [opOK] at ok <;> try contradiction
  rename_i c
  obtain ⟨callee, args, ats⟩ := c
  simp only at ok
  split at ok
  · rename_i y z t rest hargs hats
    simp only [Bool.and_eq_true] at ok
    obtain ⟨⟨o1, o2⟩, o3⟩ := ok
    obtain ⟨et, het⟩ := Option.isSome_iff_exists.1 o3
    obtain ⟨kt, u1, u2⟩ := mapElem_inv het
    have h1 := opd_rel he o1
    have h2 := opd_rel he o2
    have ha : args = #[y, z] := by apply Array.ext'; simpa using hargs
    have hat : ats[0]? = some t := by rw [← Array.getElem?_toList, hats]; rfl
    split at hev
    · rename_i mm n e1 e2
      obtain ⟨H', hs, hk⟩ := Option.bind_some_inv hev
      rw [e1] at h1
      have hn := vrel_int h2 e2
      have main : ∀ (w' : World), (Builtin.delete_ ats o.type #[a.eval y, a.eval z]).run P w = .ok (.tuple #[]) w' → R ρ H' w' → Ext ρ H w ρ H' w' → Goes k r ρ H w P o a := by
        intro w' hu hR' hX next Q hnx
        refine wp_value (v := .tuple #[]) (w' := w') ?_ (hnx _ _ _ _ _ hk ⟨[], rfl, trivial⟩ hR' hX)
        simp [execOp, ho, ha, resolve, invoke, Result.andThen, builtin, hu]
      unfold mdel at hs
      cases mm with
      | none =>
        cases hs
        have hv : a.eval y = .map none := h1
        refine main w ?_ hR (Ext.refl hR)
        simp only [Builtin.delete_, hat, List.getElem?_toArray, List.getElem?_cons_zero, List.getElem?_cons_succ, Sem.run_bind, run_underlying u1, Result.andThen, hv, hn, MapKept.run_checkKey u2 (isKey_i n), Sem.run_pure]
      | some b =>
        obtain ⟨q, hq, hs⟩ := Option.bind_some_inv hs
        cases hs
        obtain ⟨pl, g1, g2⟩ := (h1 : CRel ρ (.mp (some b)) _)
        have hb := mpAt_some hq
        have hm := hR.mp b pl q.1 q.2 g1 hb
        cases hf : mfind q.1 n with
        | none =>
          obtain ⟨al, l, ck, c1, c2, c3, c4, c5, c6⟩ := hm.nofind hf
          obtain ⟨_, hd⟩ := mfind_none hf
          have hself := putRow_self c1
          obtain ⟨r1, r2⟩ := hR.setMp (o := .map al.toArray ck) (es' := mdrop q.1 n) (ck' := q.2 + 1) g1 hb (by rw [hd, hself]; exact hm) ⟨Nat.le_succ _, fun h => by omega⟩
          rw [hself] at r1 r2
          refine main w ?_ r1 r2
          simp only [Builtin.delete_, hat, List.getElem?_toArray, List.getElem?_cons_zero, List.getElem?_cons_succ, Sem.run_bind, run_underlying u1, Result.andThen, g2, hn, MapKept.run_getObj_map c1, MapKept.run_checkKey u2 (isKey_i n), MapKept.run_findKey u2 c2]
          rw [MapKept.run_setObj_map _ c1]
          unfold putRow at hself
          rw [hself]
          simp
        | some qq =>
          obtain ⟨e1', e2', a1, a2, ee, l1, l2, ck, c1, c2, c4, c5, c6, c7, c9, c10, c11, c12⟩ := hm.find hf
          have hnew := hm.drop (w' := putRow w pl.k (.map (a1 ++ a2).toArray ck)) c1 c6 c7 c10 c11 c12 (putRow_get _ c4)
          rw [← c2] at hnew
          obtain ⟨r1, r2⟩ := hR.setMp (ck' := q.2 + 1) g1 hb hnew ⟨Nat.le_succ _, fun h => by omega⟩
          refine main _ ?_ r1 r2
          simp only [Builtin.delete_, hat, List.getElem?_toArray, List.getElem?_cons_zero, List.getElem?_cons_succ, Sem.run_bind, run_underlying u1, Result.andThen, g2, hn, MapKept.run_getObj_map c4, MapKept.run_checkKey u2 (isKey_i n), MapKept.run_findKey u2 c5]
          rw [MapKept.run_setObj_map _ c4, erase_arr]
          rfl
    · cases hev
  · cases ok

theorem go_mlen (hR : R ρ H w) (he : EnvRel ρ e a) {m : Opd} (ok : opOK P fids (.mlen m) o.op = true) (hev : evOp calls (.mlen m) e H k = some r) : Goes k r ρ H w P o a := by
  simp only [evOp] at hev
  cases ho : o.op <;> rw [ho] at ok <;> simp only [opOK] at ok <;> try contradiction
  rename_i c
  obtain ⟨callee, args, ats⟩ := c
  simp only at ok
  split at ok
  · rename_i y rest t hargs hat
    simp only [Bool.and_eq_true] at ok
    obtain ⟨o1, o3⟩ := ok
    obtain ⟨et, het⟩ := Option.isSome_iff_exists.1 o3
    obtain ⟨kt, u1, u2⟩ := mapElem_inv het
    have h1 := opd_rel he o1
    have ha : args[0]? = some y := by rw [← Array.getElem?_toList, hargs]; rfl
    split at hev
    · rename_i mm e1
      obtain ⟨n, hs, hk⟩ := Option.bind_some_inv hev
      rw [e1] at h1
      have main : (Builtin.len_ ats o.type (args.map a.eval)).run P w = .ok (goInt n) w → Goes k r ρ H w P o a := by
        intro hu next Q hnx
        refine wp_value (v := goInt n) (w' := w) ?_ (hnx _ _ _ _ _ hk (rfl : VRel ρ (.w (.one (.int .i64 n))) (goInt n)) hR (Ext.refl hR))
        simp [execOp, ho, resolve, invoke, Result.andThen, builtin, hu]
      have ha' : (args.map a.eval)[0]? = some (a.eval y) := by simp [ha]
      refine main ?_
      unfold mlen at hs
      cases mm with
      | none =>
        cases hs
        have hv : a.eval y = .map none := h1
        simp only [Builtin.len_, hat, ha', Sem.run_bind, run_underlying u1, Result.andThen, hv, Sem.run_pure]
      | some b =>
        obtain ⟨q, hq, hs⟩ := Option.bind_some_inv hs
        cases hs
        obtain ⟨pl, g1, g2⟩ := (h1 : CRel ρ (.mp (some b)) _)
        obtain ⟨ents, l, ck, c1, c2, c3, _⟩ := (hR.mp b pl q.1 q.2 g1 (mpAt_some hq)).ex
        have hlen : ents.size = q.1.length := by rw [c3.length, ← c2.length_eq]; simp
        simp only [Builtin.len_, hat, ha', Sem.run_bind, run_underlying u1, Result.andThen, g2, MapKept.run_getObj_map c1, Sem.run_pure, hlen]
    · cases hev
  · cases ok

theorem eqGuard_map (op : BinOp) (t : TypeId) (x y : Operand) (q : Option Nat) (v : Value) : eqGuard op t x y (.map q) v = pure () := by cases op <;> rfl
theorem run_map_nil (d : Nat) (t kt et : TypeId) (p : Option Nat) (h : P.underlying t = some (.map kt et)) : (Op.equalIn (d + 1) t (.map p) (.map none)).run P w = .ok p.isNone w := by
  cases p <;> simp [Op.equalIn, run_underlying h]
theorem go_isnilm (hR : R ρ H w) (he : EnvRel ρ e a) {neg : Bool} {x : Opd} (ok : opOK P fids (.isnilm neg x) o.op = true) (hev : evOp calls (.isnilm neg x) e H k = some r) : Goes k r ρ H w P o a := by
  simp only [evOp] at hev
  cases ho : o.op <;> rw [ho] at ok <;> simp only [opOK] at ok <;> try contradiction
  rename_i op' t x' y' t'
  simp only [Bool.and_eq_true, decide_eq_true_eq] at ok
  obtain ⟨⟨⟨rfl, o1⟩, o2⟩, o4⟩ := ok
  obtain ⟨et, het⟩ := Option.isSome_iff_exists.1 o4
  obtain ⟨kt, u1, u2⟩ := mapElem_inv het
  have h1 := opd_rel he o1
  have hy : a.eval y' = .map none := by split at o2 <;> simp_all [Act.eval]
  split at hev
  · rename_i p e1
    rw [e1] at h1
    have hp : ∃ q : Option Nat, a.eval x' = .map q ∧ q.isNone = p.isNone := by
      cases p with
      | none => exact ⟨none, h1, rfl⟩
      | some b => obtain ⟨pl, _, h3⟩ := (h1 : CRel ρ (.mp (some b)) _); exact ⟨_, h3, rfl⟩
    obtain ⟨q, hq, hn⟩ := hp
    refine goes_same (s := do eqGuard (bif neg then .neq else .eql) t x' y' (a.eval x') (a.eval y'); binOp (bif neg then .neq else .eql) t (a.eval x') (a.eval y')) (by simp [execOp, ho]) ?_ hev rfl hR
    rw [hq, hy, ← hn]
    simp only [eqGuard_map, Sem.run_bind, Sem.run_pure, Result.andThen]
    refine run_eqn (by simp) (by simp) (by simp) (by simp) ?_
    exact run_map_nil 9999 t kt et q u1
  · contradiction
end
end Ev
namespace Ev
open Go
section
variable {P : Program} {o : Oper} {a : Act} {w : World} {next : Act → World → Prop} {Q : Exit → Act → World → Prop}
variable {R0 : Type} {k : V → Heap → Option R0} {r : R0} {ρ : Rho} {H : Heap} {e : Env} {calls : Nat → Option Callee} {fids : Nat → Option FuncId}

theorem plain_cases {t : TypeId} {c : CT} (h : plainCts P 1 t = some [c]) :
    (∃ k, P.underlying t = some (.int k) ∧ c = .int k) ∨ (P.underlying t = some .bool ∧ c = .bool) ∨ (P.underlying t = some .string ∧ c = .str) := by
  simp only [plainCts] at h
  cases hu : P.underlying t with
  | none => simp [hu] at h
  | some d =>
    rw [hu] at h
    cases d <;> first | (simp at h; done) | skip
    · cases h; exact .inr (.inl ⟨rfl, rfl⟩)
    · rename_i k; cases h; exact .inl ⟨k, rfl, rfl⟩
    · cases h; exact .inr (.inr ⟨rfl, rfl⟩)

theorem Tup.un_cons {t : CT} {ts : List CT} {cs : List C} {x : Tup (t :: ts)} (h : Tup.un (t :: ts) cs = some x) : ∃ c r p q, cs = c :: r ∧ t.un c = some p ∧ Tup.un ts r = some q ∧ x = (p, q) := by
  cases cs with
  | nil => simp [Tup.un] at h
  | cons c r =>
    simp only [Tup.un] at h
    obtain ⟨y, h1, h2⟩ := Option.bind_some_inv h
    obtain ⟨z, h3, h4⟩ := Option.bind_some_inv h2
    cases h4
    exact ⟨c, r, y, z, rfl, h1, h3, rfl⟩

theorem toList_beq (x y : ByteArray) : (x.toList == y.toList) = decide (x.data.toList = y.data.toList) := by
  rw [ByteArray.toList_eq, ByteArray.toList_eq]
  apply Bool.eq_iff_iff.2
  rw [beq_iff_eq, decide_eq_true_eq]

theorem eqFields_run (d : Nat) {cs ds : List C} {vs us : List Value} (hc : CsRel ρ cs vs) (hd : CsRel ρ ds us) : ∀ (fs : List Field) (off : Nat) (ts : List CT) (x y : Tup ts),
    fieldsCts P off fs = some ts → Tup.un ts (cs.drop off) = some x → Tup.un ts (ds.drop off) = some y →
    (Op.eqFields (d + 1) vs.toArray us.toArray fs).run P w = .ok (Tup.beq ts x y) w
  | [], off, ts, x, y, h, _, _ => by
    simp only [fieldsCts] at h
    cases h
    simp [Op.eqFields, Tup.beq]
  | f :: fs, off, ts, x, y, h, hx, hy => by
    simp only [fieldsCts] at h
    obtain ⟨h1, h2⟩ := cond_some_inv h
    simp only [Bool.and_eq_true, decide_eq_true_eq] at h1
    obtain ⟨rfl, hn⟩ := h1
    split at h2
    · rename_i c hp
      cases hr : fieldsCts P (f.offset + 1) fs with
      | none => simp [hr] at h2
      | some ts' =>
        simp only [hr, Option.map_some] at h2
        cases h2
        obtain ⟨c1, r1, x1, x2, e1, g1, g1', rfl⟩ := Tup.un_cons hx
        obtain ⟨c2, r2, y1, y2, e2, g2, g2', rfl⟩ := Tup.un_cons hy
        have hc1 : cs[f.offset]? = some c1 := by rw [← List.head?_drop, e1]; rfl
        have hc2 : ds[f.offset]? = some c2 := by rw [← List.head?_drop, e2]; rfl
        have hr1 : cs.drop (f.offset + 1) = r1 := by rw [← List.tail_drop, e1]; rfl
        have hr2 : ds.drop (f.offset + 1) = r2 := by rw [← List.tail_drop, e2]; rfl
        obtain ⟨v1, k1, q1⟩ := hc.get hc1
        obtain ⟨v2, k2, q2⟩ := hd.get hc2
        have ih := eqFields_run d hc hd fs (f.offset + 1) ts' x2 y2 hr (by rw [hr1]; exact g1') (by rw [hr2]; exact g2')
        rw [CT.un_mk g1] at q1
        rw [CT.un_mk g2] at q2
        have ha : aggB P f.type = some false := by
          rcases plain_cases hp with ⟨k, hu, _⟩ | ⟨hu, _⟩ | ⟨hu, _⟩ <;> simp [aggB, hu]
        have hpart1 : (part f.type vs.toArray f.offset).run P w = .ok v1 w := by
          simp only [part, Sem.run_bind, run_isAgg ha, Result.andThen]; simp [k1]
        have hpart2 : (part f.type us.toArray f.offset).run P w = .ok v2 w := by
          simp only [part, Sem.run_bind, run_isAgg ha, Result.andThen]; simp [k2]
        have hel : (Op.equalIn (d + 1) f.type v1 v2).run P w = .ok (c.beq x1 y1) w := by
          rcases plain_cases hp with ⟨k, hu, rfl⟩ | ⟨hu, rfl⟩ | ⟨hu, rfl⟩
          · have e1 : v1 = .int k x1 := q1
            have e2 : v2 = .int k y1 := q2
            subst e1 e2
            have key : ∀ a b : Int, (Op.equalIn (d + 1) f.type (.int k a) (.int k b)).run P w = .ok (eqI a b) w := fun a b => by rw [run_equalIn_int w d f.type k k _ _ hu]; rfl
            exact key x1 y1
          · have e1 : v1 = .bool x1 := q1
            have e2 : v2 = .bool y1 := q2
            subst e1 e2
            have key : ∀ a b : Bool, (Op.equalIn (d + 1) f.type (.bool a) (.bool b)).run P w = .ok (eqB a b) w := fun a b => by rw [run_equalIn_bool' w d f.type _ _ hu]; rfl
            exact key x1 y1
          · obtain ⟨s1, e1, l1⟩ := q1
            obtain ⟨s2, e2, l2⟩ := q2
            subst e1 e2
            rw [run_equalIn_string w d f.type _ _ hu, toList_beq, l1, l2]; rfl
        simp only [Op.eqFields]
        rw [if_pos hn]
        simp only [Sem.run_bind, hpart1, hpart2, hel, Result.andThen]
        cases hb : c.beq x1 y1
        · simp [Tup.beq, hb]
        · simp only [Tup.beq, hb, Bool.true_and, Bool.not_true, Bool.false_eq_true, if_false]; exact ih
    · cases h2

/-- The cells of a struct that begins with another's. -/
def Tup.split : (as bs : List CT) → Tup (as ++ bs) → Tup as × Tup bs
  | [], _, x => ((), x)
  | _ :: as, bs, (p, q) => ((p, (Tup.split as bs q).1), (Tup.split as bs q).2)
theorem Tup.un_split : ∀ {as bs : List CT} {cs : List C} {x : Tup (as ++ bs)}, Tup.un (as ++ bs) cs = some x → Tup.un as (cs.take as.length) = some (Tup.split as bs x).1 ∧ Tup.un bs (cs.drop as.length) = some (Tup.split as bs x).2
  | [], bs, cs, x, h => by
    rw [List.length_nil, List.take_zero, List.drop_zero]
    exact ⟨rfl, h⟩
  | a :: as, bs, cs, x, h => by
    obtain ⟨c, r, p, q, rfl, g1, g2, rfl⟩ := Tup.un_cons (t := a) (ts := as ++ bs) h
    obtain ⟨i1, i2⟩ := Tup.un_split g2
    rw [List.length_cons, List.take_succ_cons, List.drop_succ_cons]
    refine ⟨?_, i2⟩
    simp only [Tup.un, g1, i1, Option.bind_some]; rfl
theorem Tup.beq_split : ∀ (as bs : List CT) (x y : Tup (as ++ bs)), Tup.beq (as ++ bs) x y = (Tup.beq as (Tup.split as bs x).1 (Tup.split as bs y).1 && Tup.beq bs (Tup.split as bs x).2 (Tup.split as bs y).2)
  | [], bs, x, y => by simp [Tup.beq, Tup.split]
  | a :: as, bs, (p, q), (p', q') => by
    show (a.beq p p' && Tup.beq (as ++ bs) q q') = ((a.beq p p' && Tup.beq as _ _) && Tup.beq bs _ _)
    rw [Tup.beq_split as bs q q', Bool.and_assoc]; rfl
theorem eqFields_run1 (d : Nat) {cs ds : List C} {vs us : List Value} (hc : CsRel ρ cs vs) (hd : CsRel ρ ds us) : ∀ (fs : List Field) (off : Nat) (ts : List CT) (x y : Tup ts),
    fieldsCts1 P off fs = some ts → Tup.un ts (cs.drop off) = some x → Tup.un ts (ds.drop off) = some y →
    (Op.eqFields (d + 2) vs.toArray us.toArray fs).run P w = .ok (Tup.beq ts x y) w
  | [], off, ts, x, y, h, _, _ => by
    simp only [fieldsCts1] at h
    cases h
    simp [Op.eqFields, Tup.beq]
  | f :: fs, off, ts, x, y, h, hx, hy => by
    simp only [fieldsCts1] at h
    obtain ⟨h1, h2⟩ := cond_some_inv h
    simp only [Bool.and_eq_true, decide_eq_true_eq] at h1
    obtain ⟨rfl, hn⟩ := h1
    split at h2
    · rename_i ks hk
      obtain ⟨h3, h4⟩ := cond_some_inv h2
      cases hr : fieldsCts1 P (f.offset + ks.length) fs with
      | none => simp [hr] at h4
      | some ts' =>
        simp only [hr, Option.map_some] at h4
        cases h4
        obtain ⟨g1, g1'⟩ := Tup.un_split hx
        obtain ⟨g2, g2'⟩ := Tup.un_split hy
        rw [List.drop_drop] at g1' g2'
        have ih := eqFields_run1 d hc hd fs (f.offset + ks.length) ts' _ _ hr g1' g2'
        unfold innerCts at hk
        split at hk
        · rename_i gs hgs
          cases hb : P.stoodInHeld f.type with
          | true => rw [hb] at hk; cases hk
          | false =>
            rw [hb] at hk
            simp only [cond_false] at hk
            have ha : aggB P f.type = some true := by simp [aggB, hgs]
            have hpart : ∀ zs : List Value, (part f.type zs.toArray f.offset).run P w = .ok (.agg ((zs.drop f.offset).take ks.length).toArray) w := fun zs => by
              simp only [part, Sem.run_bind, run_isAgg ha, Result.andThen, if_true, run_size h3, extract_list, Nat.add_sub_cancel_left, Sem.run_pure]
            have hfo : P.underlying f.type = some (.struct (P.fieldsOf f.type)) := by simp [Program.fieldsOf, hgs]
            have hff : P.fieldsOf f.type = gs := by simp [Program.fieldsOf, hgs]
            have hel : (Op.equalIn (d + 2) f.type (.agg ((vs.drop f.offset).take ks.length).toArray) (.agg ((us.drop f.offset).take ks.length).toArray)).run P w = .ok (Tup.beq ks (Tup.split ks ts' x).1 (Tup.split ks ts' y).1) w := by
              rw [run_equalIn_struct w (d + 1) f.type _ _ hfo hb, hff]
              exact eqFields_run d ((hc.drop f.offset).take ks.length) ((hd.drop f.offset).take ks.length) gs.toList 0 ks _ _ hk (by rw [List.drop_zero]; exact g1) (by rw [List.drop_zero]; exact g2)
            rw [Tup.beq_split]
            simp only [Op.eqFields]
            rw [if_pos hn]
            simp only [Sem.run_bind, hpart, hel, Result.andThen]
            cases hq : Tup.beq ks (Tup.split ks ts' x).1 (Tup.split ks ts' y).1
            · simp
            · simp only [Bool.true_and, Bool.not_true, Bool.false_eq_true, if_false]; exact ih
        · cases hk
    · split at h2
      · rename_i c hp
        cases hr : fieldsCts1 P (f.offset + 1) fs with
        | none => simp [hr] at h2
        | some ts' =>
          simp only [hr, Option.map_some] at h2
          cases h2
          obtain ⟨c1, r1, x1, x2, e1, g1, g1', rfl⟩ := Tup.un_cons hx
          obtain ⟨c2, r2, y1, y2, e2, g2, g2', rfl⟩ := Tup.un_cons hy
          have hc1 : cs[f.offset]? = some c1 := by rw [← List.head?_drop, e1]; rfl
          have hc2 : ds[f.offset]? = some c2 := by rw [← List.head?_drop, e2]; rfl
          have hr1 : cs.drop (f.offset + 1) = r1 := by rw [← List.tail_drop, e1]; rfl
          have hr2 : ds.drop (f.offset + 1) = r2 := by rw [← List.tail_drop, e2]; rfl
          obtain ⟨v1, k1, q1⟩ := hc.get hc1
          obtain ⟨v2, k2, q2⟩ := hd.get hc2
          have ih := eqFields_run1 d hc hd fs (f.offset + 1) ts' x2 y2 hr (by rw [hr1]; exact g1') (by rw [hr2]; exact g2')
          rw [CT.un_mk g1] at q1
          rw [CT.un_mk g2] at q2
          have ha : aggB P f.type = some false := by
            rcases plain_cases hp with ⟨k, hu, _⟩ | ⟨hu, _⟩ | ⟨hu, _⟩ <;> simp [aggB, hu]
          have hpart1 : (part f.type vs.toArray f.offset).run P w = .ok v1 w := by
            simp only [part, Sem.run_bind, run_isAgg ha, Result.andThen]; simp [k1]
          have hpart2 : (part f.type us.toArray f.offset).run P w = .ok v2 w := by
            simp only [part, Sem.run_bind, run_isAgg ha, Result.andThen]; simp [k2]
          have hel : (Op.equalIn (d + 2) f.type v1 v2).run P w = .ok (c.beq x1 y1) w := by
            rcases plain_cases hp with ⟨k, hu, rfl⟩ | ⟨hu, rfl⟩ | ⟨hu, rfl⟩
            · have e1 : v1 = .int k x1 := q1
              have e2 : v2 = .int k y1 := q2
              subst e1 e2
              have key : ∀ a b : Int, (Op.equalIn (d + 2) f.type (.int k a) (.int k b)).run P w = .ok (eqI a b) w := fun a b => by rw [run_equalIn_int w (d + 1) f.type k k _ _ hu]; rfl
              exact key x1 y1
            · have e1 : v1 = .bool x1 := q1
              have e2 : v2 = .bool y1 := q2
              subst e1 e2
              have key : ∀ a b : Bool, (Op.equalIn (d + 2) f.type (.bool a) (.bool b)).run P w = .ok (eqB a b) w := fun a b => by rw [run_equalIn_bool' w (d + 1) f.type _ _ hu]; rfl
              exact key x1 y1
            · obtain ⟨s1, e1, l1⟩ := q1
              obtain ⟨s2, e2, l2⟩ := q2
              subst e1 e2
              rw [run_equalIn_string w (d + 1) f.type _ _ hu, toList_beq, l1, l2]; rfl
          simp only [Op.eqFields]
          rw [if_pos hn]
          simp only [Sem.run_bind, hpart1, hpart2, hel, Result.andThen]
          cases hb : c.beq x1 y1
          · simp [Tup.beq, hb]
          · simp only [Tup.beq, hb, Bool.true_and, Bool.not_true, Bool.false_eq_true, if_false]; exact ih
      · cases h2

theorem go_eqagg (hR : R ρ H w) (he : EnvRel ρ e a) {neg : Bool} {ts : List CT} {x y : Opd} (ok : opOK P fids (.eqagg neg ts x y) o.op = true) (hev : evOp calls (.eqagg neg ts x y) e H k = some r) : Goes k r ρ H w P o a := by
  simp only [evOp] at hev
  cases ho : o.op <;> rw [ho] at ok <;> simp only [opOK] at ok <;> try contradiction
  rename_i op t x' y' yt
  simp only [Bool.and_eq_true, decide_eq_true_eq] at ok
  obtain ⟨⟨⟨o1, o2⟩, o3⟩, o4⟩ := ok
  split at hev
  · rename_i xs ys e1 e2
    obtain ⟨ta, h1, h2⟩ := Option.bind_some_inv hev
    obtain ⟨tb, h3, hk⟩ := Option.bind_some_inv h2
    have hx := opd_rel he o2
    have hy := opd_rel he o3
    rw [e1] at hx
    rw [e2] at hy
    obtain ⟨vs, hv, hc⟩ := hx
    obtain ⟨us, hu, hd⟩ := hy
    unfold structCts at o4
    split at o4
    · rename_i fs hfs
      cases hb : (P.stoodInHeld t || P.eqGuardType P.depth t) with
      | true => rw [hb] at o4; cases o4
      | false =>
        rw [hb] at o4
        simp only [cond_false] at o4
        obtain ⟨b1, b2⟩ := Bool.or_eq_false_iff.1 hb
        have hfo : P.underlying t = some (.struct (P.fieldsOf t)) := by simp [Program.fieldsOf, hfs]
        have hff : P.fieldsOf t = fs := by simp [Program.fieldsOf, hfs]
        have hrun : (Op.equalIn 10000 t (.agg vs.toArray) (.agg us.toArray)).run P w = .ok (Tup.beq ts ta tb) w := by
          rw [run_equalIn_struct w 9999 t _ _ hfo b1, hff]
          exact eqFields_run1 9997 hc hd fs.toList 0 ts ta tb o4 h1 h3
        have hg := fun op => run_eqGuard_agg (P := P) w op t x' y' vs.toArray us.toArray b2
        refine goes_same' (v' := .bool (negB neg (Tup.beq ts ta tb))) ?_ hk rfl hR
        cases neg
        · simp only [cond_false] at o1
          subst o1
          simp only [execOp, ho, hv, hu, Sem.run_bind, hg, Result.andThen, run_eql_struct, hrun, Sem.run_pure]; rfl
        · simp only [cond_true] at o1
          subst o1
          simp only [execOp, ho, hv, hu, Sem.run_bind, hg, Result.andThen, run_neq_struct, hrun, Sem.run_pure]; rfl
    · cases o4
  · cases hev

/-! Calls. -/
def Callee.Sound (P : Program) (f : FuncId) : Callee → Prop
  | .full ps rs g => ∀ (ρ : Rho) (H : Heap) (w : World) (t : TL ps) (r : TL rs) (H' : Heap) (vs : List Value), R ρ H w → WsRel ρ (TL.mk ps t) vs → g t H = some (r, H') →
      Calls P f vs.toArray w fun e w' => ∃ v ρ', e = .returned v ∧ VRel ρ' (resV rs r) v ∧ R ρ' H' w' ∧ Ext ρ H w ρ' H' w'
  | .quiet ps rs g => ∀ (ρ : Rho) (H : Heap) (w : World) (t : TL ps) (r : TL rs) (vs : List Value), R ρ H w → WsRel ρ (TL.mk ps t) vs → g t H = some r →
      Calls P f vs.toArray w fun e w' => ∃ v, e = .returned v ∧ VRel ρ (resV rs r) v ∧ R ρ H w' ∧ Ext ρ H w ρ H w'
  | .pure ps rs g => ∀ (ρ : Rho) (H : Heap) (w : World) (t : TL ps) (r : TL rs) (vs : List Value), R ρ H w → WsRel ρ (TL.mk ps t) vs → g t = some r →
      Calls P f vs.toArray w fun e w' => ∃ v, e = .returned v ∧ VRel ρ (resV rs r) v ∧ R ρ H w' ∧ Ext ρ H w ρ H w'

/-- The functions that are called are known. -/
structure CallsOK (P : Program) (calls : Nat → Option Callee) (fids : Nat → Option FuncId) : Prop where
  sound : ∀ f c g, calls f = some c → fids f = some g → c.Sound P g
  enters : ∀ f c g, calls f = some c → fids f = some g → ∃ fn, P.funcs[g]? = some fn ∧ (fn.name == "runtime.NumGoroutine") = false ∧ fn.body.isNone = false

theorem wsrel_of {ws : List W} : ∀ {vs : List Value}, VsRel ρ (ws.map V.w) vs → WsRel ρ ws vs := by
  induction ws with
  | nil => intro vs h; cases vs with
    | nil => trivial
    | cons _ _ => exact h.elim
  | cons x xs ih => intro vs h; cases vs with
    | nil => exact h.elim
    | cons y ys => exact ⟨h.1, ih h.2⟩

theorem wp_enter {f : FuncId} {args : Array Value} {Rr : Ending → World → Prop} (h : (execOp a.eval o).run P w = .ok (.enter f args) w)
    (hc : Calls P f args w Rr) (hr : ∀ e w', Rr e w' → ∃ v, e = .returned v ∧ next (a.put o.dst v) w') : o.wp P a w next Q := by
  unfold Oper.wp
  rw [h]
  refine Calls.mono hc ?_
  intro e w' he
  obtain ⟨v, rfl, hn⟩ := hr e w' he
  exact hn

theorem go_call (hCO : CallsOK P calls fids) (hR : R ρ H w) (he : EnvRel ρ e a) {f : Nat} {args : List Opd} (ok : opOK P fids (.call f args) o.op = true) (hev : evOp calls (.call f args) e H k = some r) : Goes k r ρ H w P o a := by
  simp only [evOp] at hev
  cases ho : o.op <;> rw [ho] at ok <;> simp only [opOK] at ok <;> try contradiction
  rename_i c
  obtain ⟨callee, args', ats⟩ := c
  simp only at ok
  split at ok
  · rename_i g
    simp only [Bool.and_eq_true, decide_eq_true_eq] at ok
    obtain ⟨o1, o2⟩ := ok
    have hvs := opds_vs he o2
    cases hcf : calls f with
    | none => rw [hcf] at hev; cases hev
    | some c =>
      have hs := hCO.sound f c g hcf o1
      obtain ⟨fn, f1, f2, f3⟩ := hCO.enters f c g hcf o1
      rw [hcf] at hev
      have hexec : (execOp a.eval o).run P w = .ok (.enter g (args'.toList.map a.eval).toArray) w := by
        have e1 : (args'.map a.eval) = (args'.toList.map a.eval).toArray := by
          apply Array.ext'; simp
        simp only [execOp, ho, resolve, Act.eval, Deferred.ofValue, Sem.run_bind, Sem.run_pure, Result.andThen, invoke, callFunc, run_program, f1, f2, f3]
        simp [e1]
      intro next Q hn
      cases c with
      | full ps rs gg =>
        simp only at hev
        obtain ⟨t, h1, h2⟩ := Option.bind_some_inv hev
        obtain ⟨p, h3, hk⟩ := Option.bind_some_inv h2
        have hw := TL.un_mk h1
        rw [hw] at hvs
        refine wp_enter hexec (hs ρ H w t p.1 p.2 _ hR (wsrel_of hvs) h3) ?_
        rintro e w' ⟨v, ρ', rfl, q1, q2, q3⟩
        exact ⟨v, rfl, hn _ _ _ _ _ hk q1 q2 q3⟩
      | quiet ps rs gg =>
        simp only at hev
        obtain ⟨t, h1, h2⟩ := Option.bind_some_inv hev
        obtain ⟨p, h3, hk⟩ := Option.bind_some_inv h2
        have hw := TL.un_mk h1
        rw [hw] at hvs
        refine wp_enter hexec (hs ρ H w t p _ hR (wsrel_of hvs) h3) ?_
        rintro e w' ⟨v, rfl, q1, q2, q3⟩
        exact ⟨v, rfl, hn _ _ _ _ _ hk q1 q2 q3⟩
      | pure ps rs gg =>
        simp only at hev
        obtain ⟨t, h1, h2⟩ := Option.bind_some_inv hev
        obtain ⟨p, h3, hk⟩ := Option.bind_some_inv h2
        have hw := TL.un_mk h1
        rw [hw] at hvs
        refine wp_enter hexec (hs ρ H w t p _ hR (wsrel_of hvs) h3) ?_
        rintro e w' ⟨v, rfl, q1, q2, q3⟩
        exact ⟨v, rfl, hn _ _ _ _ _ hk q1 q2 q3⟩
  · cases ok

theorem go_callv (hCO : CallsOK P calls fids) (hR : R ρ H w) (he : EnvRel ρ e a) {g0 : Nat} {x : Opd} {f : Nat} {args : List Opd} (ok : opOK P fids (.callv g0 x f args) o.op = true) (hev : evOp calls (.callv g0 x f args) e H k = some r) : Goes k r ρ H w P o a := by
  simp only [evOp] at hev
  cases ho : o.op <;> rw [ho] at ok <;> simp only [opOK] at ok <;> try contradiction
  rename_i c
  obtain ⟨callee, args', ats⟩ := c
  simp only at ok
  split at ok
  · rename_i n
    simp only [Bool.and_eq_true, decide_eq_true_eq] at ok
    obtain ⟨⟨o1, ox⟩, o2⟩ := ok
    have hvx := opd_rel he ox
    have hfn : ∃ g, x.ev e = .w (.one (.fn g)) ∧ (bif decide (g = g0) then evCall calls f (args.map (Opd.ev e)) H k else none) = some r := by
      split at hev
      · rename_i g hx
        exact ⟨g, hx, hev⟩
      · cases hev
    obtain ⟨g, hx, hev⟩ := hfn
    have hgg : g = g0 := by
      by_cases hh : g = g0
      · exact hh
      · rw [decide_eq_false hh] at hev; cases hev
    subst hgg
    rw [decide_eq_true (rfl : g = g)] at hev
    replace hev : evCall calls f (args.map (Opd.ev e)) H k = some r := hev
    rw [hx] at hvx
    have hval : a.tmps.getD n undef = .func (.func g) #[] #[] := hvx
    unfold evCall at hev
    have hvs := opds_vs he o2
    cases hcf : calls f with
    | none => rw [hcf] at hev; cases hev
    | some c =>
      have hs := hCO.sound f c g hcf o1
      obtain ⟨fn, f1, f2, f3⟩ := hCO.enters f c g hcf o1
      rw [hcf] at hev
      have hexec : (execOp a.eval o).run P w = .ok (.enter g (args'.toList.map a.eval).toArray) w := by
        have e1 : (args'.map a.eval) = (args'.toList.map a.eval).toArray := by
          apply Array.ext'; simp
        simp only [execOp, ho, resolve, Act.eval, hval, Deferred.ofValue, Sem.run_bind, Sem.run_pure, Result.andThen, invoke, callFunc, run_program, f1, f2, f3]
        simp [e1]
      intro next Q hn
      cases c with
      | full ps rs gg =>
        simp only at hev
        obtain ⟨t, h1, h2⟩ := Option.bind_some_inv hev
        obtain ⟨p, h3, hk⟩ := Option.bind_some_inv h2
        have hw := TL.un_mk h1
        rw [hw] at hvs
        refine wp_enter hexec (hs ρ H w t p.1 p.2 _ hR (wsrel_of hvs) h3) ?_
        rintro e w' ⟨v, ρ', rfl, q1, q2, q3⟩
        exact ⟨v, rfl, hn _ _ _ _ _ hk q1 q2 q3⟩
      | quiet ps rs gg =>
        simp only at hev
        obtain ⟨t, h1, h2⟩ := Option.bind_some_inv hev
        obtain ⟨p, h3, hk⟩ := Option.bind_some_inv h2
        have hw := TL.un_mk h1
        rw [hw] at hvs
        refine wp_enter hexec (hs ρ H w t p _ hR (wsrel_of hvs) h3) ?_
        rintro e w' ⟨v, rfl, q1, q2, q3⟩
        exact ⟨v, rfl, hn _ _ _ _ _ hk q1 q2 q3⟩
      | pure ps rs gg =>
        simp only at hev
        obtain ⟨t, h1, h2⟩ := Option.bind_some_inv hev
        obtain ⟨p, h3, hk⟩ := Option.bind_some_inv h2
        have hw := TL.un_mk h1
        rw [hw] at hvs
        refine wp_enter hexec (hs ρ H w t p _ hR (wsrel_of hvs) h3) ?_
        rintro e w' ⟨v, rfl, q1, q2, q3⟩
        exact ⟨v, rfl, hn _ _ _ _ _ hk q1 q2 q3⟩
  · cases ok

theorem go_any (hR : R ρ H w) (ok : opOK P fids .any o.op = true) (hev : evOp calls .any e H k = some r) : Goes k r ρ H w P o a := by
  simp only [evOp] at hev
  cases ho : o.op <;> rw [ho] at ok <;> simp only [opOK] at ok <;> try contradiction
  · rename_i y; exact goes_same' (v := .und) (v' := a.eval y) (by simp [execOp, ho]) hev trivial hR
  · rename_i y; exact goes_same' (v := .und) (v' := a.eval y) (by simp [execOp, ho]) hev trivial hR

theorem ptrs_rel (he : EnvRel ρ e a) : ∀ {xs : List Opd} {ys : List Operand} {ps : List Ptr}, opdsOK xs ys = true → ptrsOf (xs.map (Opd.ev e)) = some ps → PsRel ρ ps (ys.map a.eval)
  | [], [], ps, _, h => by cases h; trivial
  | x :: xs, y :: ys, ps, ok, h => by
    simp only [opdsOK, Bool.and_eq_true] at ok
    have h1 := opd_rel he ok.1
    simp only [List.map_cons] at h
    unfold ptrsOf at h
    split at h
    · rename_i hh; exact absurd hh (by simp)
    · rename_i p r hh
      simp only [List.cons.injEq] at hh
      obtain ⟨h2, rfl⟩ := hh
      obtain ⟨q, h3, h4⟩ := Option.bind_some_inv h
      cases h4
      rw [h2] at h1
      have h5 := ptrs_rel he ok.2 h3
      cases p with
      | none => exact ⟨h1, h5⟩
      | some b => exact ⟨h1, h5⟩
    · cases h
  | [], _ :: _, _, ok, _ => by simp [opdsOK] at ok
  | _ :: _, [], _, ok, _ => by simp [opdsOK] at ok

theorem go_mkf (hR : R ρ H w) (he : EnvRel ρ e a) {g : Nat} {xs : List Opd} (ok : opOK P fids (.mkf g xs) o.op = true) (hev : evOp calls (.mkf g xs) e H k = some r) : Goes k r ρ H w P o a := by
  simp only [evOp] at hev
  cases ho : o.op <;> rw [ho] at ok <;> simp only [opOK] at ok <;> try contradiction
  rename_i fn first captured
  split at ok
  · rename_i g'
    simp only [Bool.and_eq_true, decide_eq_true_eq] at ok
    obtain ⟨⟨rfl, o1⟩, o2⟩ := ok
    obtain ⟨ps, h1, hk⟩ := Option.bind_some_inv hev
    have h2 := ptrs_rel he o2 h1
    have hf : first = #[] := by simpa [Array.isEmpty_iff] using o1
    subst hf
    refine goes_same (v := .w (.one (.clo g ps))) (v' := .func (.func g) #[] (captured.map a.eval)) (s := Instr.makeFunc (.func g) (#[].map a.eval) (captured.map a.eval)) (by simp [execOp, ho]) (by simp [Instr.makeFunc]) hk ?_ hR
    have hc : captured.map a.eval = (captured.toList.map a.eval).toArray := by apply Array.ext'; simp
    exact (⟨captured.toList.map a.eval, by rw [hc], h2⟩ : CRel ρ (.clo g ps) (.func (.func g) #[] (captured.map a.eval)))
  · cases ok

theorem VsRel.append : ∀ {xs ys : List V} {us vs : List Value}, VsRel ρ xs us → VsRel ρ ys vs → VsRel ρ (xs ++ ys) (us ++ vs)
  | [], _, [], _, _, h => h
  | _ :: _, _, _ :: _, _, ⟨a, b⟩, h => ⟨a, VsRel.append b h⟩
  | [], _, _ :: _, _, r, _ => r.elim
  | _ :: _, _, [], _, r, _ => r.elim
theorem PsRel.vs : ∀ {ps : List Ptr} {us : List Value}, PsRel ρ ps us → VsRel ρ (ps.map fun p => .w (.one (.ptr p))) us
  | [], [], _ => trivial
  | none :: _, _ :: _, ⟨a, b⟩ => ⟨a, PsRel.vs b⟩
  | some _ :: _, _ :: _, ⟨a, b⟩ => ⟨a, PsRel.vs b⟩
  | [], _ :: _, r => r.elim
  | none :: _, [], r => r.elim
  | some _ :: _, [], r => r.elim

theorem go_callc (hCO : CallsOK P calls fids) (hR : R ρ H w) (he : EnvRel ρ e a) {g0 n0 : Nat} {x : Opd} {f : Nat} {args : List Opd} (ok : opOK P fids (.callc g0 n0 x f args) o.op = true) (hev : evOp calls (.callc g0 n0 x f args) e H k = some r) : Goes k r ρ H w P o a := by
  simp only [evOp] at hev
  cases ho : o.op <;> rw [ho] at ok <;> simp only [opOK] at ok <;> try contradiction
  rename_i c
  obtain ⟨callee, args', ats⟩ := c
  simp only at ok
  split at ok
  · rename_i n
    simp only [Bool.and_eq_true, decide_eq_true_eq] at ok
    obtain ⟨⟨o1, ox⟩, o2⟩ := ok
    have hvx := opd_rel he ox
    have hfn : ∃ (c : C) (t : Ptrs n0), x.ev e = .w (.one c) ∧ CT.un (.clo g0 n0) c = some t ∧ evCall calls f (args.map (Opd.ev e) ++ (Ptrs.list n0 t).map fun p => .w (.one (.ptr p))) H k = some r := by
      split at hev
      · rename_i c hx
        obtain ⟨t, ht, hev⟩ := Option.bind_some_inv hev
        exact ⟨c, t, hx, ht, hev⟩
      · cases hev
    obtain ⟨cc, tt, hx, hun, hev⟩ := hfn
    rw [hx, CT.un_mk hun] at hvx
    obtain ⟨caps, hval, hps⟩ := (hvx : CRel ρ (.clo g0 (Ptrs.list n0 tt)) _)
    replace hval : a.tmps.getD n undef = .func (.func g0) #[] caps.toArray := hval
    unfold evCall at hev
    have hvs := VsRel.append (opds_vs he o2) hps.vs
    cases hcf : calls f with
    | none => rw [hcf] at hev; cases hev
    | some c =>
      have hs := hCO.sound f c g0 hcf o1
      obtain ⟨fn, f1, f2, f3⟩ := hCO.enters f c g0 hcf o1
      rw [hcf] at hev
      have hexec : (execOp a.eval o).run P w = .ok (.enter g0 (args'.toList.map a.eval ++ caps).toArray) w := by
        have e1 : (args'.map a.eval) = (args'.toList.map a.eval).toArray := by
          apply Array.ext'; simp
        simp only [execOp, ho, resolve, Act.eval, hval, Deferred.ofValue, Sem.run_bind, Sem.run_pure, Result.andThen, invoke, callFunc, run_program, f1, f2, f3]
        simp [e1]
      intro next Q hn
      cases c with
      | full ps rs gg =>
        simp only at hev
        obtain ⟨t, h1, h2⟩ := Option.bind_some_inv hev
        obtain ⟨p, h3, hk⟩ := Option.bind_some_inv h2
        have hw := TL.un_mk h1
        rw [hw] at hvs
        refine wp_enter hexec (hs ρ H w t p.1 p.2 _ hR (wsrel_of hvs) h3) ?_
        rintro e w' ⟨v, ρ', rfl, q1, q2, q3⟩
        exact ⟨v, rfl, hn _ _ _ _ _ hk q1 q2 q3⟩
      | quiet ps rs gg =>
        simp only at hev
        obtain ⟨t, h1, h2⟩ := Option.bind_some_inv hev
        obtain ⟨p, h3, hk⟩ := Option.bind_some_inv h2
        have hw := TL.un_mk h1
        rw [hw] at hvs
        refine wp_enter hexec (hs ρ H w t p _ hR (wsrel_of hvs) h3) ?_
        rintro e w' ⟨v, rfl, q1, q2, q3⟩
        exact ⟨v, rfl, hn _ _ _ _ _ hk q1 q2 q3⟩
      | pure ps rs gg =>
        simp only at hev
        obtain ⟨t, h1, h2⟩ := Option.bind_some_inv hev
        obtain ⟨p, h3, hk⟩ := Option.bind_some_inv h2
        have hw := TL.un_mk h1
        rw [hw] at hvs
        refine wp_enter hexec (hs ρ H w t p _ hR (wsrel_of hvs) h3) ?_
        rintro e w' ⟨v, rfl, q1, q2, q3⟩
        exact ⟨v, rfl, hn _ _ _ _ _ hk q1 q2 q3⟩
  · cases ok

theorem evOp_goes (hCO : CallsOK P calls fids) (hR : R ρ H w) (he : EnvRel ρ e a) {op : AOp} (ok : opOK P fids op o.op = true) (hev : evOp calls op e H k = some r) : Goes k r ρ H w P o a := by
  cases op with
  | mv x => exact go_mv hR he ok hev
  | pick c a b => exact go_pick hR he ok hev
  | new z => exact go_new hR ok hev
  | box x => exact go_box hR he ok hev
  | build z ps => exact go_build hR he ok hev
  | bslice es len z ps => exact go_bslice hR he ok hev
  | load ty x => exact go_load hR he ok hev
  | store n a x => exact go_store hR he ok hev
  | nilc x => exact go_nilc hR he ok hev
  | bin op x y => exact go_bin hR he ok hev
  | eqb neg x y => exact go_eqb hR he ok hev
  | isnil neg x => exact go_isnil hR he ok hev
  | isnils neg x => exact go_isnils hR he ok hev
  | eqagg neg ts x y => exact go_eqagg hR he ok hev
  | un op x => exact go_un hR he ok hev
  | conv k x => exact go_conv hR he ok hev
  | cstr x => exact go_cstr hR he ok hev
  | b2s x => exact go_b2s hR he ok hev
  | s2b x => exact go_s2b hR he ok hev
  | mk es b z l c => exact go_mk hR he ok hev
  | slc es x lo hi mx => exact go_slc hR he ok hev
  | slstr x lo hi => exact go_slstr hR he ok hev
  | addr off x => exact go_addr hR he ok hev
  | field ty off x => exact go_field hR he ok hev
  | idxa es x i => exact go_idxa hR he ok hev
  | idxarr es n x i => exact go_idxarr hR he ok hev
  | index x i => exact go_index hR he ok hev
  | ext x i => exact go_ext hR he ok hev
  | call f args => exact go_call hCO hR he ok hev
  | callv g x f args => exact go_callv hCO hR he ok hev
  | len x => exact go_len hR he ok hev
  | lens x => exact go_lens hR he ok hev
  | app es b s x => exact go_app hR he ok hev
  | cpy es d s => exact go_cpy hR he ok hev
  | clr z x => exact go_clr hR he ok hev
  | min xs => exact go_min hR he ok hev
  | max xs => exact go_max hR he ok hev
  | mkm => exact go_mkm hR ok hev
  | mget ty z is m i => exact go_mget hR he ok hev
  | mset m i x => exact go_mset hR he ok hev
  | any => exact go_any hR ok hev
  | mkf g xs => exact go_mkf hR he ok hev
  | callc g n x f args => exact go_callc hCO hR he ok hev
  | mdel m i => exact go_mdel hR he ok hev
  | mlen m => exact go_mlen hR he ok hev
  | isnilm neg x => exact go_isnilm hR he ok hev

end
end Ev
