/- How the evaluator's heap stands to the machine's memory: blocks by a map, cells one by one. -/
import Derived.Test.YtnndecgjcgpmbaaEvCore
import Derived.Tactics
import Derived.Tactics2
import Derived.WalkKit
import Derived.Orders
namespace Ev
open Go

structure Pl where
  k : Nat
  base : Nat
  n : Nat
  n2 : Nat
  loose : Bool

abbrev Rho := Nat → Option Pl

def Rho.le (ρ ρ' : Rho) : Prop := ∀ b pl, ρ b = some pl → ρ' b = some pl
theorem Rho.le_refl (ρ : Rho) : ρ.le ρ := fun _ _ h => h
theorem Rho.le_trans {a b c : Rho} (h : a.le b) (k : b.le c) : a.le c := fun x y z => k x y (h x y z)

def SlOK (pl : Pl) (es o len cap : Nat) (a : Addr) (cap' : Nat) : Prop :=
  a.spot = none ∧ a.block = pl.k ∧ len ≤ cap ∧ o + cap * es ≤ pl.n ∧
  ((a.off = pl.base + o ∧ cap ≤ cap' ∧ (cap = cap' ∨ (pl.loose = true ∧ o + cap * es = pl.n)) ∧ pl.base + o + cap' * es ≤ pl.n2) ∨ (cap = 0 ∧ cap' = 0))

def CRel (ρ : Rho) : C → Value → Prop
  | .int k n, v => v = .int k n
  | .bool b, v => v = .bool b
  | .str s, v => ∃ x : ByteArray, v = .string x ∧ x.data.toList = s
  | .ptr none, v => v = .pointer none
  | .ptr (some a), v => ∃ pl, ρ a.1 = some pl ∧ v = .pointer (some ⟨pl.k, pl.base + a.2, none⟩)
  | .sl _ ⟨none, len, cap⟩, v => len = 0 ∧ cap = 0 ∧ v = .slice none 0 0
  | .sl es ⟨some a, len, cap⟩, v => ∃ pl x cap', ρ a.1 = some pl ∧ v = .slice (some x) len cap' ∧ SlOK pl es a.2 len cap x cap'
  | .mp none, v => v = .map none
  | .mp (some b), v => ∃ pl, ρ b = some pl ∧ v = .map (some pl.k)

def CsRel (ρ : Rho) : List C → List Value → Prop
  | [], [] => True
  | c :: cs, v :: vs => CRel ρ c v ∧ CsRel ρ cs vs
  | _, _ => False

def WRel (ρ : Rho) : W → Value → Prop
  | .one c, v => CRel ρ c v
  | .agg cs, v => ∃ vs : List Value, v = .agg vs.toArray ∧ CsRel ρ cs vs

def WsRel (ρ : Rho) : List W → List Value → Prop
  | [], [] => True
  | c :: cs, v :: vs => WRel ρ c v ∧ WsRel ρ cs vs
  | _, _ => False

def VRel (ρ : Rho) : V → Value → Prop
  | .und, _ => True
  | .off, v => v = undef
  | .w x, v => WRel ρ x v
  | .tup xs, v => ∃ vs : List Value, v = .tuple vs.toArray ∧ WsRel ρ xs vs

theorem CRel.mono {ρ ρ' : Rho} (h : ρ.le ρ') {c : C} {v : Value} (r : CRel ρ c v) : CRel ρ' c v := by
  match c with
  | .int _ _ => exact r
  | .bool _ => exact r
  | .str _ => exact r
  | .ptr none => exact r
  | .ptr (some a) => obtain ⟨pl, h1, h2⟩ := r; exact ⟨pl, h _ _ h1, h2⟩
  | .sl _ ⟨none, _, _⟩ => exact r
  | .sl _ ⟨some a, _, _⟩ => obtain ⟨pl, x, c, h1, h2, h3⟩ := r; exact ⟨pl, x, c, h _ _ h1, h2, h3⟩
  | .mp none => exact r
  | .mp (some b) => obtain ⟨pl, h1, h2⟩ := r; exact ⟨pl, h _ _ h1, h2⟩

theorem CsRel.mono {ρ ρ' : Rho} (h : ρ.le ρ') : ∀ {cs : List C} {vs : List Value}, CsRel ρ cs vs → CsRel ρ' cs vs
  | [], [], _ => trivial
  | _ :: _, _ :: _, ⟨a, b⟩ => ⟨a.mono h, CsRel.mono h b⟩
  | [], _ :: _, r => r.elim
  | _ :: _, [], r => r.elim

theorem WRel.mono {ρ ρ' : Rho} (h : ρ.le ρ') {c : W} {v : Value} (r : WRel ρ c v) : WRel ρ' c v := by
  cases c with
  | one c => exact CRel.mono h r
  | agg cs => obtain ⟨vs, h1, h2⟩ := r; exact ⟨vs, h1, h2.mono h⟩

theorem WsRel.mono {ρ ρ' : Rho} (h : ρ.le ρ') : ∀ {cs : List W} {vs : List Value}, WsRel ρ cs vs → WsRel ρ' cs vs
  | [], [], _ => trivial
  | _ :: _, _ :: _, ⟨a, b⟩ => ⟨a.mono h, WsRel.mono h b⟩
  | [], _ :: _, r => r.elim
  | _ :: _, [], r => r.elim

theorem VRel.mono {ρ ρ' : Rho} (h : ρ.le ρ') {c : V} {v : Value} (r : VRel ρ c v) : VRel ρ' c v := by
  cases c with
  | und => trivial
  | off => exact r
  | w x => exact WRel.mono h r
  | tup xs => obtain ⟨vs, h1, h2⟩ := r; exact ⟨vs, h1, h2.mono h⟩

/-! Rows of cells. -/
theorem CsRel.length {ρ : Rho} : ∀ {cs : List C} {vs : List Value}, CsRel ρ cs vs → cs.length = vs.length
  | [], [], _ => rfl
  | _ :: _, _ :: _, ⟨_, b⟩ => by simp [CsRel.length b]
  | [], _ :: _, r => r.elim
  | _ :: _, [], r => r.elim
theorem CsRel.get {ρ : Rho} : ∀ {cs : List C} {vs : List Value}, CsRel ρ cs vs → ∀ {j : Nat} {c : C}, cs[j]? = some c → ∃ v, vs[j]? = some v ∧ CRel ρ c v
  | [], [], _, j, c, h => by simp at h
  | x :: xs, y :: ys, ⟨a, b⟩, j, c, h => by
    cases j with
    | zero => simp at h; subst h; exact ⟨y, by simp, a⟩
    | succ j => simp at h; obtain ⟨v, h1, h2⟩ := b.get h; exact ⟨v, by simpa using h1, h2⟩
  | [], _ :: _, r, _, _, _ => r.elim
  | _ :: _, [], r, _, _, _ => r.elim
theorem CsRel.append {ρ : Rho} : ∀ {cs ds : List C} {vs us : List Value}, CsRel ρ cs vs → CsRel ρ ds us → CsRel ρ (cs ++ ds) (vs ++ us)
  | [], _, [], _, _, h => h
  | _ :: _, _, _ :: _, _, ⟨a, b⟩, h => ⟨a, CsRel.append b h⟩
  | [], _, _ :: _, _, r, _ => r.elim
  | _ :: _, _, [], _, r, _ => r.elim
theorem CsRel.take {ρ : Rho} : ∀ {cs : List C} {vs : List Value} (n : Nat), CsRel ρ cs vs → CsRel ρ (cs.take n) (vs.take n)
  | [], [], n, _ => by simp [CsRel]
  | c :: cs, v :: vs, n, ⟨a, b⟩ => by
    cases n with
    | zero => simp [CsRel]
    | succ n => simpa [CsRel] using ⟨a, b.take n⟩
  | [], _ :: _, _, r => r.elim
  | _ :: _, [], _, r => r.elim
theorem CsRel.drop {ρ : Rho} : ∀ {cs : List C} {vs : List Value} (n : Nat), CsRel ρ cs vs → CsRel ρ (cs.drop n) (vs.drop n)
  | [], [], n, _ => by simp [CsRel]
  | c :: cs, v :: vs, n, ⟨a, b⟩ => by
    cases n with
    | zero => exact ⟨a, b⟩
    | succ n => simpa using b.drop n
  | [], _ :: _, _, r => r.elim
  | _ :: _, [], _, r => r.elim
theorem CsRel.set {ρ : Rho} : ∀ {cs : List C} {vs : List Value} (j : Nat) {c : C} {v : Value}, CsRel ρ cs vs → CRel ρ c v → CsRel ρ (cs.set j c) (vs.set j v)
  | [], [], _, _, _, _, _ => by simp [CsRel]
  | x :: xs, y :: ys, j, c, v, ⟨a, b⟩, h => by
    cases j with
    | zero => exact ⟨h, b⟩
    | succ j => exact ⟨a, b.set j h⟩
  | [], _ :: _, _, _, _, r, _ => r.elim
  | _ :: _, [], _, _, _, r, _ => r.elim
theorem CsRel.of_get {ρ : Rho} : ∀ {cs : List C} {vs : List Value}, cs.length = vs.length → (∀ (j : Nat) (c : C) (v : Value), cs[j]? = some c → vs[j]? = some v → CRel ρ c v) → CsRel ρ cs vs
  | [], [], _, _ => trivial
  | c :: cs, v :: vs, h, g => ⟨g 0 c v (by simp) (by simp), CsRel.of_get (by simpa using h) fun j c v h1 h2 => g (j + 1) c v (by rw [List.getElem?_cons_succ]; exact h1) (by rw [List.getElem?_cons_succ]; exact h2)⟩
  | [], _ :: _, h, _ => by simp at h
  | _ :: _, [], h, _ => by simp at h
theorem CsRel.replicate {ρ : Rho} {c : C} {v : Value} (h : CRel ρ c v) : ∀ n, CsRel ρ (List.replicate n c) (List.replicate n v)
  | 0 => trivial
  | n + 1 => ⟨h, CsRel.replicate h n⟩

def setV : List Value → Nat → List Value → List Value
  | cs, _, [] => cs
  | cs, o, c :: r => setV (cs.set o c) (o + 1) r
theorem setV_length : ∀ (new cs : List Value) (o : Nat), (setV cs o new).length = cs.length
  | [], _, _ => rfl
  | _ :: r, cs, o => by simp [setV, setV_length r]
theorem setL_length : ∀ (new cs : List C) (o : Nat), (setL cs o new).length = cs.length
  | [], _, _ => rfl
  | _ :: r, cs, o => by simp [setL, setL_length r]
theorem CsRel.setL {ρ : Rho} : ∀ {new : List C} {us : List Value} {cs : List C} {vs : List Value} (o : Nat), CsRel ρ cs vs → CsRel ρ new us → CsRel ρ (setL cs o new) (setV vs o us)
  | [], [], _, _, _, h, _ => h
  | _ :: _, _ :: _, _, _, o, h, ⟨a, b⟩ => CsRel.setL (o + 1) (h.set o a) b
  | [], _ :: _, _, _, _, _, r => r.elim
  | _ :: _, [], _, _, _, _, r => r.elim
theorem setV_drop : ∀ (us vs : List Value) (base o : Nat), (setV vs (base + o) us).drop base = setV (vs.drop base) o us
  | [], _, _, _ => rfl
  | u :: r, vs, base, o => by
    simp only [setV]
    have h := setV_drop r (vs.set (base + o) u) base (o + 1)
    rw [← Nat.add_assoc] at h
    rw [h]
    have e : List.drop base (vs.set (base + o) u) = (List.drop base vs).set o u := by
      rw [List.drop_set, if_neg (by omega), Nat.add_sub_cancel_left]
    rw [e]
theorem setV_take : ∀ (us vs : List Value) (o n : Nat), o + us.length ≤ n → (setV vs o us).take n = setV (vs.take n) o us
  | [], _, _, _, _ => rfl
  | u :: r, vs, o, n, h => by
    simp only [setV]
    rw [setV_take r _ _ _ (by simp at h; omega), List.take_set]

/-! One cell of each. -/
def _root_.Go.Value.oneC : Value → Bool
  | .agg _ | .tuple _ => false
  | _ => true

theorem CRel.oneC {ρ : Rho} {c : C} {v : Value} (h : CRel ρ c v) : v.oneC = true := by
  match c, h with
  | .int _ _, h => subst h; rfl
  | .bool _, h => subst h; rfl
  | .str _, ⟨x, h, _⟩ => subst h; rfl
  | .ptr none, h => subst h; rfl
  | .ptr (some a), ⟨pl, _, h⟩ => subst h; rfl
  | .sl _ ⟨none, _, _⟩, ⟨_, _, h⟩ => subst h; rfl
  | .sl _ ⟨some a, _, _⟩, ⟨pl, x, c, _, h, _⟩ => subst h; rfl
  | .mp none, h => subst h; rfl
  | .mp (some b), ⟨pl, _, h⟩ => subst h; rfl
theorem CRel.cells {ρ : Rho} {c : C} {v : Value} (h : CRel ρ c v) : v.cells = #[v] := by
  have := h.oneC
  cases v <;> simp_all [Value.cells, Value.oneC]
theorem CsRel.oneC {ρ : Rho} : ∀ {cs : List C} {vs : List Value}, CsRel ρ cs vs → ∀ v ∈ vs, v.oneC = true
  | [], [], _, _, h => by simp at h
  | _ :: _, _ :: _, ⟨a, b⟩, v, h => by
    rcases List.mem_cons.1 h with rfl | h
    · exact a.oneC
    · exact b.oneC v h
  | [], _ :: _, r, _, _ => r.elim
  | _ :: _, [], r, _, _ => r.elim

def W.cs : W → List C
  | .one c => [c]
  | .agg cs => cs
theorem WRel.cs {ρ : Rho} {x : W} {v : Value} (h : WRel ρ x v) : CsRel ρ x.cs v.cells.toList := by
  cases x with
  | one c => have h : CRel ρ c v := h; rw [h.cells]; exact ⟨h, trivial⟩
  | agg cs => obtain ⟨vs, rfl, h⟩ := h; simpa [W.cs, Value.cells] using h

/-! Memory. -/
structure BlkRel (ρ : Rho) (pl : Pl) (acs : List C) (bk : BK) (w : World) : Prop where
  ex : ∃ (vs : List Value) (el : TypeId) (fr : Nat × Nat), w.heap[pl.k]? = some (.cells vs.toArray el fr) ∧ vs.length = pl.n2 ∧ CsRel ρ acs ((vs.drop pl.base).take pl.n) ∧
    (bk ≠ .ro → ∀ j, fr.1 ≤ j → j < fr.2 → pl.n2 ≤ j)
  len : acs.length = pl.n
  fits : pl.base + pl.n ≤ pl.n2
  exact : bk = .exact → pl.base = 0 ∧ pl.n2 = pl.n ∧ pl.loose = false
  loose : bk ≠ .exact → pl.loose = true

def wrB (H : Heap) (b : Nat) : Prop := ∃ cs bk, H[b]? = some (.cells cs bk) ∧ bk ≠ .ro

structure R (ρ : Rho) (H : Heap) (w : World) : Prop where
  dom : ∀ b pl, ρ b = some pl → b < H.length
  blk : ∀ b pl acs bk, ρ b = some pl → H[b]? = some (.cells acs bk) → BlkRel ρ pl acs bk w
  sep : ∀ b b' pl pl' acs acs' bk bk', b ≠ b' → ρ b = some pl → ρ b' = some pl' → H[b]? = some (.cells acs bk) → H[b']? = some (.cells acs' bk') → bk ≠ .ro → pl.k ≠ pl'.k
  nomap : ∀ (b : Nat) (es : List (C × W)), H[b]? ≠ some (Blk.mp es)

/-- What a step may do: nothing that was there turns, but blocks that may be written. -/
structure Ext (ρ : Rho) (H : Heap) (w : World) (ρ' : Rho) (H' : Heap) (w' : World) : Prop where
  le : ρ.le ρ'
  len : H.length ≤ H'.length
  new : ∀ b pl, ρ' b = some pl → ρ b = none → H.length ≤ b ∧ (w.heap.size ≤ pl.k ∨ ∃ b0 pl0, ρ b0 = some pl0 ∧ wrB H b0 ∧ pl0.k = pl.k)
  wr : ∀ b, b < H.length → wrB H' b → wrB H b
  size : w.heap.size ≤ w'.heap.size
  os : w'.os = w.os
  tape : w'.tape = w.tape
  output : w'.output = w.output
  frame : ∀ j, j < w.heap.size → (∀ b pl, ρ b = some pl → pl.k = j → ¬ wrB H b) → w'.heap[j]? = w.heap[j]?

theorem Ext.refl (ρ : Rho) (H : Heap) (w : World) : Ext ρ H w ρ H w :=
  ⟨Rho.le_refl _, Nat.le_refl _, fun b pl h h' => by simp [h] at h', fun _ _ h => h, Nat.le_refl _, rfl, rfl, rfl, fun _ _ _ => rfl⟩

theorem Ext.trans {ρ ρ' ρ'' : Rho} {H H' H'' : Heap} {w w' w'' : World} (h : Ext ρ H w ρ' H' w') (k : Ext ρ' H' w' ρ'' H'' w'') (hd : ∀ b pl, ρ b = some pl → b < H.length) :
    Ext ρ H w ρ'' H'' w'' where
  le := Rho.le_trans h.le k.le
  len := Nat.le_trans h.len k.len
  new := by
    intro b pl h1 h2
    cases h3 : ρ' b with
    | none =>
      obtain ⟨h4, h5⟩ := k.new b pl h1 h3
      refine ⟨Nat.le_trans h.len h4, ?_⟩
      rcases h5 with h5 | ⟨b0, pl0, h6, h7, h8⟩
      · exact .inl (Nat.le_trans h.size h5)
      · cases h9 : ρ b0 with
        | some pl1 =>
          have := h.le _ _ h9
          rw [h6] at this
          cases this
          exact .inr ⟨b0, pl0, h9, h.wr _ (hd _ _ h9) h7, h8⟩
        | none =>
          obtain ⟨_, h10⟩ := h.new b0 pl0 h6 h9
          rw [h8] at h10
          exact h10
    | some pl' =>
      have := k.le _ _ h3
      rw [h1] at this
      cases this
      exact h.new b pl h3 h2
  wr := fun b hb hw => h.wr b hb (k.wr b (Nat.lt_of_lt_of_le hb h.len) hw)
  size := Nat.le_trans h.size k.size
  os := k.os.trans h.os
  tape := k.tape.trans h.tape
  output := k.output.trans h.output
  frame := by
    intro j hj hno
    rw [k.frame j (Nat.lt_of_lt_of_le hj h.size), h.frame j hj hno]
    intro b pl h1 h2 h3
    cases h4 : ρ b with
    | some pl0 =>
      have := h.le _ _ h4
      rw [h1] at this
      cases this
      exact hno b pl h4 h2 (h.wr b (hd _ _ h4) h3)
    | none =>
      obtain ⟨_, h5⟩ := h.new b pl h1 h4
      rcases h5 with h5 | ⟨b0, pl0, h6, h7, h8⟩
      · omega
      · exact hno b0 pl0 h6 (h8.trans h2) h7

end Ev
namespace Ev
open Go

def Rho.set (ρ : Rho) (b : Nat) (pl : Pl) : Rho := fun x => if x = b then some pl else ρ x
theorem Rho.set_same (ρ : Rho) (b : Nat) (pl : Pl) : ρ.set b pl b = some pl := by simp [Rho.set]
theorem Rho.set_other (ρ : Rho) {b x : Nat} (pl : Pl) (h : x ≠ b) : ρ.set b pl x = ρ x := by simp [Rho.set, h]
theorem Rho.le_set {ρ : Rho} {b : Nat} (pl : Pl) (h : ρ b = none) : ρ.le (ρ.set b pl) := by
  intro x p hx
  by_cases e : x = b
  · subst e; rw [h] at hx; cases hx
  · rw [Rho.set_other _ _ e]; exact hx

theorem BlkRel.mono {ρ ρ' : Rho} (h : ρ.le ρ') {pl : Pl} {acs : List C} {bk : BK} {w : World} (r : BlkRel ρ pl acs bk w) : BlkRel ρ' pl acs bk w := by
  obtain ⟨⟨vs, el, fr, h1, h2, h3, h4⟩, a, b, c, d⟩ := r
  exact ⟨⟨vs, el, fr, h1, h2, h3.mono h, h4⟩, a, b, c, d⟩
theorem BlkRel.world {ρ : Rho} {pl : Pl} {acs : List C} {bk : BK} {w w' : World} (r : BlkRel ρ pl acs bk w) (h : w'.heap[pl.k]? = w.heap[pl.k]?) : BlkRel ρ pl acs bk w' := by
  obtain ⟨⟨vs, el, fr, h1, h2, h3, h4⟩, a, b, c, d⟩ := r
  exact ⟨⟨vs, el, fr, h.trans h1, h2, h3, h4⟩, a, b, c, d⟩
theorem BlkRel.lt {ρ : Rho} {pl : Pl} {acs : List C} {bk : BK} {w : World} (r : BlkRel ρ pl acs bk w) : pl.k < w.heap.size := by
  obtain ⟨⟨vs, el, fr, h1, _⟩, _⟩ := r
  rcases Nat.lt_or_ge pl.k w.heap.size with h | h
  · exact h
  · simp [Array.getElem?_eq_none h] at h1

theorem R.world {ρ : Rho} {H : Heap} {w w' : World} (r : R ρ H w) (h : ∀ k, k < w.heap.size → w'.heap[k]? = w.heap[k]?) : R ρ H w' :=
  ⟨r.dom, fun b pl acs bk h1 h2 => (r.blk b pl acs bk h1 h2).world (h _ (r.blk b pl acs bk h1 h2).lt), r.sep, r.nomap⟩

theorem getElem?_push_lt {α : Type} (a : Array α) (x : α) {k : Nat} (h : k < a.size) : (a.push x)[k]? = a[k]? := by
  rw [Array.getElem?_push, if_neg (by omega)]

theorem R.none_of_len {ρ : Rho} {H : Heap} {w : World} (r : R ρ H w) : ρ H.length = none := by
  cases h : ρ H.length with
  | none => rfl
  | some pl => exact absurd (r.dom _ _ h) (Nat.lt_irrefl _)

/-- A new block. -/
theorem R.alloc {ρ : Rho} {H : Heap} {w w' : World} (r : R ρ H w) (acs : List C) (bk : BK) (vs : List Value) (el : TypeId) (fr : Nat × Nat)
    (hw : w'.heap = w.heap.push (.cells vs.toArray el fr)) (ho : w'.os = w.os) (ht : w'.tape = w.tape) (hp : w'.output = w.output)
    (hc : CsRel ρ acs (vs.take acs.length)) (hl : acs.length ≤ vs.length) (hx : bk = .exact → vs.length = acs.length)
    (hf : ∀ j, fr.1 ≤ j → j < fr.2 → vs.length ≤ j) :
    R (ρ.set H.length ⟨w.heap.size, 0, acs.length, vs.length, !decide (bk = .exact)⟩) (H ++ [.cells acs bk]) w' ∧
    Ext ρ H w (ρ.set H.length ⟨w.heap.size, 0, acs.length, vs.length, !decide (bk = .exact)⟩) (H ++ [.cells acs bk]) w' := by
  have hn := r.none_of_len
  have hle := Rho.le_set ⟨w.heap.size, 0, acs.length, vs.length, !decide (bk = .exact)⟩ hn
  have hold : ∀ k, k < w.heap.size → w'.heap[k]? = w.heap[k]? := fun k hk => by rw [hw, getElem?_push_lt _ _ hk]
  refine ⟨⟨?_, ?_, ?_, ?_⟩, ⟨hle, by simp, ?_, ?_, by rw [hw]; simp, ho, ht, hp, fun k hk _ => hold k hk⟩⟩
  · intro b pl h
    by_cases e : b = H.length
    · subst e; simp
    · rw [Rho.set_other _ _ e] at h
      have := r.dom _ _ h
      simp; omega
  · intro b pl acs' bk' h1 h2
    by_cases e : b = H.length
    · subst e
      rw [Rho.set_same] at h1
      cases h1
      simp at h2
      obtain ⟨rfl, rfl⟩ := h2
      refine ⟨⟨vs, el, fr, ?_, rfl, by simpa using hc.mono hle, fun _ => hf⟩, rfl, by simpa using hl, fun h => ⟨rfl, hx h, by simp [h]⟩, fun h => by simp [h]⟩
      rw [hw]; simp
    · rw [Rho.set_other _ _ e] at h1
      have hb := r.dom _ _ h1
      rw [List.getElem?_append_left hb] at h2
      have q := r.blk b pl acs' bk' h1 h2
      exact (q.world (hold _ q.lt)).mono hle
  · intro b b' pl pl' a1 a2 k1 k2 hne h1 h1' h2 h2' hr
    by_cases e : b = H.length
    · subst e
      rw [Rho.set_same] at h1
      cases h1
      rw [Rho.set_other _ _ (Ne.symm hne)] at h1'
      have hb := r.dom _ _ h1'
      rw [List.getElem?_append_left hb] at h2'
      have := (r.blk _ _ _ _ h1' h2').lt
      simp; omega
    · rw [Rho.set_other _ _ e] at h1
      have hb := r.dom _ _ h1
      rw [List.getElem?_append_left hb] at h2
      by_cases e' : b' = H.length
      · subst e'
        rw [Rho.set_same] at h1'
        cases h1'
        have := (r.blk _ _ _ _ h1 h2).lt
        simp; omega
      · rw [Rho.set_other _ _ e'] at h1'
        have hb' := r.dom _ _ h1'
        rw [List.getElem?_append_left hb'] at h2'
        exact r.sep b b' pl pl' a1 a2 k1 k2 hne h1 h1' h2 h2' hr
  · intro b es h
    rcases Nat.lt_or_ge b H.length with hb | hb
    · rw [List.getElem?_append_left hb] at h; exact r.nomap b es h
    · rw [List.getElem?_append_right hb] at h
      cases hc : b - H.length <;> simp [hc] at h
  · intro b pl h1 h2
    by_cases e : b = H.length
    · subst e
      rw [Rho.set_same] at h1
      cases h1
      exact ⟨Nat.le_refl _, .inl (Nat.le_refl _)⟩
    · rw [Rho.set_other _ _ e] at h1
      rw [h1] at h2; cases h2
  · rintro b hb ⟨cs, bk', h1, h2⟩
    rw [List.getElem?_append_left hb] at h1
    exact ⟨cs, bk', h1, h2⟩

def putRow (w : World) (k : Nat) (o : Obj) : World := { w with heap := w.heap.setIfInBounds k o }

theorem wr_some {H H' : Heap} {b o : Nat} {new : List C} (h : wr H b o new = some H') :
    ∃ cs bk, H[b]? = some (.cells cs bk) ∧ bk ≠ .ro ∧ o + new.length ≤ cs.length ∧ H' = H.set b (.cells (setL cs o new) bk) := by
  unfold wr at h
  cases hb : H[b]? with
  | none => simp [hb] at h
  | some x =>
    cases x with
    | dead => simp [hb] at h
    | mp es => simp [hb] at h
    | cells cs bk =>
      simp only [hb] at h
      by_cases h1 : bk ≠ .ro
      · by_cases h2 : o + new.length ≤ cs.length
        · simp [h1, h2] at h; exact ⟨cs, bk, rfl, h1, h2, h.symm⟩
        · simp [h2] at h
      · simp [h1] at h

/-- A store into a block. -/
theorem R.store {ρ : Rho} {H H' : Heap} {w : World} (r : R ρ H w) {b o : Nat} {pl : Pl} {new : List C} {us : List Value} (hρ : ρ b = some pl) (hw : wr H b o new = some H') (hu : CsRel ρ new us) :
    ∃ vs el fr, w.heap[pl.k]? = some (.cells vs.toArray el fr) ∧ pl.base + o + us.length ≤ vs.length ∧ (∀ j, fr.1 ≤ j → j < fr.2 → vs.length ≤ j) ∧
      R ρ H' (putRow w pl.k (.cells (setV vs (pl.base + o) us).toArray el fr)) ∧ Ext ρ H w ρ H' (putRow w pl.k (.cells (setV vs (pl.base + o) us).toArray el fr)) := by
  obtain ⟨cs, bk, hb, hro, hlen, rfl⟩ := wr_some hw
  have q := r.blk b pl cs bk hρ hb
  obtain ⟨⟨vs, el, fr, h1, h2, h3, h4⟩, hl, hfit, hex, hlo⟩ := q
  have hk := (r.blk b pl cs bk hρ hb).lt
  have hul := hu.length
  have hblt := r.dom _ _ hρ
  have hold : ∀ k, k ≠ pl.k → (putRow w pl.k (.cells (setV vs (pl.base + o) us).toArray el fr)).heap[k]? = w.heap[k]? := fun k hk => by
    simp only [putRow]
    rw [Array.getElem?_setIfInBounds_ne (Ne.symm hk)]
  refine ⟨vs, el, fr, h1, by omega, fun j hj hj' => by have := h4 hro j hj hj'; omega, ⟨?_, ?_, ?_, ?_⟩, ⟨Rho.le_refl _, by simp, fun b pl h h' => by simp [h] at h', ?_, by simp [putRow], rfl, rfl, rfl, ?_⟩⟩
  · intro b' pl' h; simpa using r.dom _ _ h
  · intro b' pl' acs bk' h h'
    by_cases e : b' = b
    · subst e
      rw [hρ] at h; cases h
      rw [List.getElem?_set_self hblt] at h'
      simp at h'
      obtain ⟨rfl, rfl⟩ := h'
      refine ⟨⟨setV vs (pl.base + o) us, el, fr, ?_, by rw [setV_length]; exact h2, ?_, fun _ => h4 hro⟩, by rw [setL_length]; exact hl, hfit, hex, hlo⟩
      · simp only [putRow]; rw [Array.getElem?_setIfInBounds_self_of_lt hk]
      · rw [setV_drop, setV_take _ _ _ _ (by omega)]
        exact h3.setL o hu
    · rw [List.getElem?_set_ne (Ne.symm e)] at h'
      have q := r.blk _ _ _ _ h h'
      exact q.world (hold _ (fun hk => r.sep b b' pl pl' _ _ _ _ (Ne.symm e) hρ h hb h' hro hk.symm))
  · intro b1 b2 p1 p2 a1 a2 k1 k2 hne g1 g2 g3 g4 hr
    have go : ∀ (x : Nat) (a : List C) (k : BK), (List.set H b (Blk.cells (setL cs o new) bk))[x]? = some (Blk.cells a k) → ∃ a', H[x]? = some (Blk.cells a' k) := by
      intro x a k h
      by_cases e : x = b
      · subst e; rw [List.getElem?_set_self hblt] at h; simp at h; obtain ⟨_, rfl⟩ := h; exact ⟨cs, hb⟩
      · rw [List.getElem?_set_ne (Ne.symm e)] at h; exact ⟨a, h⟩
    obtain ⟨a1', g3'⟩ := go _ _ _ g3
    obtain ⟨a2', g4'⟩ := go _ _ _ g4
    exact r.sep b1 b2 p1 p2 a1' a2' k1 k2 hne g1 g2 g3' g4' hr
  · intro x es h
    by_cases e : x = b
    · subst e; rw [List.getElem?_set_self hblt] at h; cases h
    · rw [List.getElem?_set_ne (Ne.symm e)] at h; exact r.nomap x es h
  · rintro x hx ⟨a, k, h, h'⟩
    by_cases e : x = b
    · subst e; exact ⟨cs, bk, hb, hro⟩
    · rw [List.getElem?_set_ne (Ne.symm e)] at h; exact ⟨a, k, h, h'⟩
  · intro j hj hno
    exact hold j (fun e => hno b pl hρ e.symm ⟨cs, bk, hb, hro⟩)

/-! The machine's own steps on a row of cells. -/
theorem setCell_row {w : World} {k : Nat} {vs : List Value} {el : TypeId} {fr : Nat × Nat} (h : w.heap[k]? = some (.cells vs.toArray el fr)) (o : Nat) (v : Value) :
    w.setCell ⟨k, o, none⟩ v = putRow w k (.cells (vs.set o v).toArray el fr) := by
  have hk : k < w.heap.size := by
    rcases Nat.lt_or_ge k w.heap.size with h' | h'
    · exact h'
    · simp [Array.getElem?_eq_none h'] at h
  have hx : w.heap[k] = .cells vs.toArray el fr := by simpa [Array.getElem?_eq_getElem hk] using h
  have hmod : ∀ f : Obj → Obj, w.heap.modify k f = w.heap.setIfInBounds k (f w.heap[k]) := by
    intro f
    apply Array.ext
    · simp
    · intro i h1 h2
      rw [Array.getElem_modify, Array.getElem_setIfInBounds (by simpa using h2)]
      split
      · rename_i e; subst e; rfl
      · rfl
  simp only [World.setCell, putRow, hmod, hx]
  simp

theorem putRow_putRow (w : World) (k : Nat) (o o' : Obj) : putRow (putRow w k o) k o' = putRow w k o' := by
  simp [putRow]
theorem putRow_get {w : World} {k : Nat} {x : Obj} (o : Obj) (h : w.heap[k]? = some x) : (putRow w k o).heap[k]? = some o := by
  have hk : k < w.heap.size := by
    rcases Nat.lt_or_ge k w.heap.size with h' | h'
    · exact h'
    · simp [Array.getElem?_eq_none h'] at h
  simp only [putRow]; rw [Array.getElem?_setIfInBounds_self_of_lt hk]
theorem putRow_self {w : World} {k : Nat} {x : Obj} (h : w.heap[k]? = some x) : putRow w k x = w := by
  have hk : k < w.heap.size := by
    rcases Nat.lt_or_ge k w.heap.size with h' | h'
    · exact h'
    · simp [Array.getElem?_eq_none h'] at h
  have hx : w.heap[k] = x := by simpa [Array.getElem?_eq_getElem hk] using h
  have : w.heap.setIfInBounds k x = w.heap := by
    apply Array.ext
    · simp
    · intro i h1 h2
      rw [Array.getElem_setIfInBounds]
      split
      · rename_i e; subst e; exact hx.symm
      · rfl
  simp only [putRow, this]

theorem cell?_row {w : World} {k : Nat} {vs : List Value} {el : TypeId} {fr : Nat × Nat} (h : w.heap[k]? = some (.cells vs.toArray el fr)) (o : Nat) :
    w.cell? ⟨k, o, none⟩ = vs[o]? := by
  simp [World.cell?, h]

theorem run_storeCells_row {P : Program} {k : Nat} {el : TypeId} {fr : Nat × Nat} : ∀ (us : List Value) (off i : Nat) (vs : List Value) (w : World),
    w.heap[k]? = some (.cells vs.toArray el fr) → off + i + us.length ≤ vs.length → (∀ j, fr.1 ≤ j → j < fr.2 → vs.length ≤ j) → (∀ v ∈ us, v.oneC = true) →
    (storeCells ⟨k, off, none⟩ us i).run P w = .ok () (putRow w k (.cells (setV vs (off + i) us).toArray el fr))
  | [], off, i, vs, w, h, _, _, _ => by
    simp only [storeCells, setV]
    rw [putRow_self h]; rfl
  | u :: r, off, i, vs, w, h, hl, hf, ho => by
    simp at hl
    have hadd : (⟨k, off, none⟩ : Addr).add i = ⟨k, off + i, none⟩ := by
      unfold Addr.add; split
      · rename_i e; subst e; rfl
      · rfl
    have hc : w.cell? ⟨k, off + i, none⟩ = some (vs[off + i]'(by omega)) := by
      rw [cell?_row h, List.getElem?_eq_getElem (by omega)]
    have hfz : w.frozen? ⟨k, off + i, none⟩ = false := by
      simp only [World.frozen?, h]
      cases hq : (decide (fr.1 ≤ off + i) && decide (off + i < fr.2)) with
      | false => rfl
      | true =>
        simp at hq
        have := hf _ hq.1 hq.2
        omega
    have hst : (store ⟨k, off + i, none⟩ u).run P w = .ok () (w.setCell ⟨k, off + i, none⟩ u) := by
      have h1 : u.oneC = true := ho u (by simp)
      cases u <;> simp_all [store, Sem.run, Value.oneC]
    simp only [storeCells, hadd]
    simp only [Sem.run_bind, hst, Result.andThen]
    rw [setCell_row h]
    have h' := putRow_get (.cells (vs.set (off + i) u).toArray el fr) h
    have := run_storeCells_row (P := P) r off (i + 1) (vs.set (off + i) u) _ h' (by simp; omega) (by simpa using hf) (fun v hv => ho v (by simp [hv]))
    rw [this, putRow_putRow]
    rfl

theorem run_loadCellsFrom_row {P : Program} {k : Nat} {vs : List Value} {el : TypeId} {fr : Nat × Nat} {w : World} (h : w.heap[k]? = some (.cells vs.toArray el fr)) (off : Nat) :
    ∀ (n i : Nat) (acc : Array Value), off + i + n ≤ vs.length → (loadCellsFrom ⟨k, off, none⟩ i n acc).run P w = .ok (acc ++ ((vs.drop (off + i)).take n).toArray) w
  | 0, i, acc, _ => by simp [loadCellsFrom]
  | n + 1, i, acc, hl => by
    have hadd : (⟨k, off, none⟩ : Addr).add i = ⟨k, off + i, none⟩ := by
      unfold Addr.add; split
      · rename_i e; subst e; rfl
      · rfl
    have hlt : off + i < vs.length := by omega
    have hc : w.cell? ⟨k, off + i, none⟩ = some (vs[off + i]) := by
      rw [cell?_row h, List.getElem?_eq_getElem hlt]
    have hld : (load ⟨k, off + i, none⟩).run P w = .ok (vs[off + i]) w := by simp [load, Sem.run, hc]
    simp only [loadCellsFrom, hadd, Sem.run_bind, hld, Result.andThen]
    rw [run_loadCellsFrom_row h off n (i + 1) _ (by omega)]
    congr 1
    have : (vs.drop (off + i)).take (n + 1) = vs[off + i] :: (vs.drop (off + (i + 1))).take n := by
      rw [List.drop_eq_getElem_cons hlt]; rfl
    rw [this]
    simp

theorem run_loadCells_row {P : Program} {k : Nat} {vs : List Value} {el : TypeId} {fr : Nat × Nat} {w : World} (h : w.heap[k]? = some (.cells vs.toArray el fr)) (off n : Nat) (hl : off + n ≤ vs.length) :
    (loadCells ⟨k, off, none⟩ n).run P w = .ok ((vs.drop off).take n).toArray w := by
  have := run_loadCellsFrom_row (P := P) h off n 0 #[] (by omega)
  simpa [loadCells] using this

end Ev
