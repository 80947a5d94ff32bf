/- Arguments that come in: plain cells, structs of plain cells, slices of such. -/
import Derived.Test.YtbnghapbakaheaaEvTie
import Derived.Deep.Slices
import Derived.WalkKit
import Derived.ProofKit
import Derived.Below
import Derived.Lib.LaidU8
namespace Ev
open Go Go.ChangeShapes Go.WideShapes

def C.ct : C → CT
  | .int k _ => .int k
  | .bool _ => .bool
  | .str _ => .str
  | .ptr _ => .ptr
  | .sl es _ => .sl es
  | .mp _ => .mp
  | .fn g => .fn g
  | .clo g ps => .clo g ps.length

def wfC : C → Prop
  | .int k n => k.min ≤ n ∧ n ≤ k.max
  | .str s => s.length ≤ maxLen
  | _ => True

theorem typed_ptrs : ∀ ps : List Ptr, ∃ x : Ptrs ps.length, Ptrs.list ps.length x = ps
  | [] => ⟨(), rfl⟩
  | p :: r => by
    obtain ⟨y, hy⟩ := typed_ptrs r
    exact ⟨(p, y), by show p :: Ptrs.list r.length y = p :: r; rw [hy]⟩
theorem typed_one (c : C) : ∃ x : c.ct.T, c.ct.mk x = c := by
  cases c with
  | clo g ps => obtain ⟨x, hx⟩ := typed_ptrs ps; exact ⟨x, by show C.clo g (Ptrs.list ps.length x) = _; rw [hx]⟩
  | _ => first | exact ⟨(), rfl⟩ | exact ⟨_, rfl⟩
theorem typed_of : ∀ (acs : List C), ∃ x : Tup (acs.map C.ct), Tup.mk _ x = acs
  | [] => ⟨(), rfl⟩
  | c :: r => by
    obtain ⟨x, hx⟩ := typed_one c
    obtain ⟨y, hy⟩ := typed_of r
    exact ⟨(x, y), by show c.ct.mk x :: Tup.mk _ y = c :: r; rw [hx, hy]⟩

/-- Cells of these types, that refer to nothing. -/
def FlatRel (cts : List CT) (vs : List Value) : Prop := ∃ acs : List C, acs.map C.ct = cts ∧ (∀ ρ, CsRel ρ acs vs) ∧ ∀ c ∈ acs, wfC c

theorem FlatRel.nil : FlatRel [] [] := ⟨[], rfl, fun _ => trivial, fun _ h => by cases h⟩
theorem FlatRel.append {a b : List CT} {us vs : List Value} (h : FlatRel a us) (k : FlatRel b vs) : FlatRel (a ++ b) (us ++ vs) := by
  obtain ⟨x, h1, h2, h3⟩ := h
  obtain ⟨y, k1, k2, k3⟩ := k
  exact ⟨x ++ y, by rw [List.map_append, h1, k1], fun ρ => (h2 ρ).append (k2 ρ), fun c hc => by rcases List.mem_append.1 hc with hc | hc; exact h3 c hc; exact k3 c hc⟩
theorem FlatRel.length {cts : List CT} {vs : List Value} (h : FlatRel cts vs) : cts.length = vs.length := by
  obtain ⟨x, h1, h2, _⟩ := h
  rw [← h1, List.length_map, (h2 fun _ => none).length]

def flatFields (f : TypeId → Option (List CT)) : Nat → List Field → Option (List CT)
  | _, [] => some []
  | off, x :: r => bif Nat.beq x.offset off then (f x.type).bind fun a => (flatFields f (off + a.length) r).map fun b => a ++ b else none
def flatCts (P : Program) : Nat → TypeId → Option (List CT)
  | 0, _ => none
  | d + 1, t => (match P.underlying t with
    | some (.int k) => some [CT.int k]
    | some .bool => some [.bool]
    | some .string => some [.str]
    | some (.struct fs) => flatFields (flatCts P d) 0 fs.toList
    | some (.array n e) => (flatCts P d e).bind fun a => bif Nat.beq (P.cellsOf e) a.length then some (List.replicate n a).flatten else none
    | _ => none).bind fun cts => bif Nat.beq (P.cellsOf t) cts.length then some cts else none

section
variable {H : Type} {enc : TypeId × Value → H} {P : Program} {w : World} {base : Nat} {spare : Nat → Bool} {held : Bool}

theorem fields_flat {f : TypeId → Option (List CT)} {fuel : Nat} (hf : ∀ t cts, f t = some cts → P.cellsOf t = cts.length ∧ ∀ cs x, DataW.trod enc P w base spare held fuel t cs = some x → FlatRel cts cs) (cs : List Value) :
    ∀ (fs : List Field) (off : Nat) (cts : List CT) (xs : List (DataW H × List MemPlace)), flatFields f off fs = some cts → cs.length = off + cts.length →
      fs.mapM (fun g => DataW.trod enc P w base spare held fuel g.type ((cs.drop g.offset).take (P.cellsOf g.type))) = some xs → FlatRel cts (cs.drop off)
  | [], off, cts, xs, h, hl, _ => by
    simp only [flatFields] at h
    cases h
    rw [List.drop_eq_nil_of_le (by rw [hl]; simp)]
    exact .nil
  | g :: fs, off, cts, xs, h, hl, hm => by
    simp only [flatFields] at h
    obtain ⟨h1, h2⟩ := cond_some_inv h
    have h1 := Nat.eq_of_beq_eq_true h1
    subst h1
    obtain ⟨a, h3, h4⟩ := Option.bind_some_inv h2
    cases hr : flatFields f (g.offset + a.length) fs with
    | none => rw [hr] at h4; cases h4
    | some b =>
      rw [hr] at h4
      cases h4
      rw [List.mapM_cons] at hm
      obtain ⟨y, m1, m2⟩ := Option.bind_some_inv hm
      obtain ⟨ys, m3, m4⟩ := Option.bind_some_inv m2
      obtain ⟨q1, q2⟩ := hf _ _ h3
      have r1 := q2 _ _ m1
      rw [q1] at r1
      have r2 := fields_flat hf cs fs (g.offset + a.length) b ys hr (by rw [hl, List.length_append]; omega) m3
      have := r1.append r2
      rwa [← List.drop_drop, List.take_append_drop] at this

theorem array_flat {e : TypeId} {fuel : Nat} {a : List CT} (q1 : P.cellsOf e = a.length) (hf : ∀ cs x, DataW.trod enc P w base spare held fuel e cs = some x → FlatRel a cs) (cs : List Value) :
    ∀ (n i : Nat) (xs : List (DataW H × List MemPlace)), cs.length = (i + n) * a.length →
      (List.range' i n).mapM (fun i => DataW.trod enc P w base spare held fuel e ((cs.drop (i * P.cellsOf e)).take (P.cellsOf e))) = some xs → FlatRel (List.replicate n a).flatten (cs.drop (i * a.length))
  | 0, i, xs, hl, _ => by
    rw [List.drop_eq_nil_of_le (by rw [hl]; simp)]
    exact .nil
  | n + 1, i, xs, hl, hm => by
    rw [List.range'_succ, List.mapM_cons] at hm
    obtain ⟨y, m1, m2⟩ := Option.bind_some_inv hm
    obtain ⟨ys, m3, m4⟩ := Option.bind_some_inv m2
    have r1 := hf _ _ m1
    rw [q1] at r1
    have r2 := array_flat q1 hf cs n (i + 1) ys (by rw [hl]; congr 1; omega) m3
    have := r1.append r2
    rw [Nat.succ_mul, ← List.drop_drop, List.take_append_drop] at this
    exact this

theorem trod_flat : ∀ (d : Nat) (t : TypeId) (cts : List CT), flatCts P d t = some cts → P.cellsOf t = cts.length ∧ ∀ (fuel : Nat) (cs : List Value) (x : DataW H × List MemPlace), DataW.trod enc P w base spare held fuel t cs = some x → FlatRel cts cs
  | 0, _, _, h => by cases h
  | d + 1, t, cts, h => by
    simp only [flatCts] at h
    obtain ⟨c0, h1, h2⟩ := Option.bind_some_inv h
    obtain ⟨h3, h4⟩ := cond_some_inv h2
    cases h4
    have h3 := Nat.eq_of_beq_eq_true h3
    refine ⟨h3, ?_⟩
    intro fuel cs x hx
    cases fuel with
    | zero => simp [DataW.trod] at hx
    | succ fuel =>
      split at h1
      · rename_i k hu
        cases h1
        obtain ⟨n, rfl, _, hw⟩ := DataW.trod_int hu hx
        refine ⟨[.int k n], rfl, fun _ => ⟨rfl, trivial⟩, fun c hc => ?_⟩
        rw [List.mem_singleton.1 hc]
        simpa [Lit.wf, wfC] using hw
      · rename_i hu
        cases h1
        obtain ⟨b, rfl, _⟩ := DataW.trod_bool hu hx
        exact ⟨[.bool b], rfl, fun _ => ⟨rfl, trivial⟩, fun c hc => by rw [List.mem_singleton.1 hc]; trivial⟩
      · rename_i hu
        cases h1
        obtain ⟨s, rfl, _, hs⟩ := DataW.trod_string hu hx
        refine ⟨[.str s.data.toList], rfl, fun _ => ⟨⟨s, rfl, rfl⟩, trivial⟩, fun c hc => ?_⟩
        rw [List.mem_singleton.1 hc]
        show s.data.toList.length ≤ maxLen
        rw [Array.length_toList]; exact hs
      · rename_i fs hu
        have hx2 : (if cs.length = P.cellsOf t then (fs.toList.mapM fun f => DataW.trod enc P w base spare held fuel f.type ((cs.drop f.offset).take (P.cellsOf f.type))).map fun xs => ((.agg (xs.map (·.1)), xs.flatMap (·.2)) : DataW H × List MemPlace) else none) = some x := by
          rw [← hx]; simp only [DataW.trod, hu]
        split at hx2
        · rename_i hl
          cases hm : fs.toList.mapM fun f => DataW.trod enc P w base spare held fuel f.type ((cs.drop f.offset).take (P.cellsOf f.type)) with
          | none => rw [hm] at hx2; cases hx2
          | some xs =>
            have := fields_flat (fun t cts h => ⟨(trod_flat d t cts h).1, (trod_flat d t cts h).2 fuel⟩) cs fs.toList 0 cts xs h1 (by rw [hl, h3, Nat.zero_add]) hm
            simpa using this
        · cases hx2
      · rename_i n e hu
        obtain ⟨a, h5, h6⟩ := Option.bind_some_inv h1
        obtain ⟨h7, h8⟩ := cond_some_inv h6
        cases h8
        have h7 := Nat.eq_of_beq_eq_true h7
        have hx2 : (if cs.length = P.cellsOf t then ((List.range n).mapM fun i => DataW.trod enc P w base spare held fuel e ((cs.drop (i * P.cellsOf e)).take (P.cellsOf e))).map fun xs => ((.agg (xs.map (·.1)), xs.flatMap (·.2)) : DataW H × List MemPlace) else none) = some x := by
          rw [← hx]; simp only [DataW.trod, hu]
        split at hx2
        · rename_i hl
          cases hm : (List.range n).mapM fun i => DataW.trod enc P w base spare held fuel e ((cs.drop (i * P.cellsOf e)).take (P.cellsOf e)) with
          | none => rw [hm] at hx2; cases hx2
          | some xs =>
            rw [List.range_eq_range'] at hm
            have := array_flat h7 ((trod_flat d e a h5).2 fuel) cs n 0 xs (by rw [hl, h3, List.length_flatten]; simp) hm
            simpa using this
        · cases hx2
      · cases h1
end

/-! Blocks that came in. -/
def AllRo (H : Heap) : Prop := ∀ x ∈ H, ∃ cs, x = Blk.cells cs .ro
theorem AllRo.nowr {H : Heap} (h : AllRo H) (b : Nat) : ¬ wrB H b := by
  rintro (⟨cs, bk, h1, h2⟩ | ⟨es, ck, h1⟩)
  · obtain ⟨cs', h3⟩ := h _ (List.mem_of_getElem? h1)
    cases h3
    exact h2 rfl
  · obtain ⟨cs', h3⟩ := h _ (List.mem_of_getElem? h1)
    cases h3

theorem below_of {ρ ρ' : Rho} {H H' : Heap} {w w' : World} (hro : AllRo H) (h : Ext ρ H w ρ' H' w') : RowKit.Below w.heap.size w w' :=
  ⟨h.os, h.tape, h.output, h.size, fun k hk => h.frame k hk fun b _ _ _ => hro.nowr b⟩

theorem cell_inv {w : World} {a : Addr} {v : Value} (h : w.cell? a = some v) : a.spot = none ∧ ∃ vs el fr, w.heap[a.block]? = some (.cells vs el fr) ∧ vs[a.off]? = some v := by
  unfold World.cell? at h
  split at h
  · rename_i vs el fr hb
    split at h
    · cases h
    · rename_i hs
      refine ⟨?_, vs, el, fr, hb, h⟩
      cases ha : a.spot with
      | none => rfl
      | some x => rw [ha] at hs; simp at hs
  · cases h

theorem add_spot {a : Addr} (h : a.spot = none) (i : Nat) : a.add i = ⟨a.block, a.off + i, none⟩ := by
  obtain ⟨b, o, s⟩ := a
  simp only at h
  subst h
  exact Addr.add_lit _ _ _

theorem R.addRo {ρ : Rho} {H : Heap} {w : World} (hR : R ρ H w) (hro : AllRo H) {a : Addr} {acs : List C} {es cap : Nat} (hlen : acs.length = cap * es) (hes : 0 < es) (hsp : a.spot = none)
    (hcell : ∀ i c, acs[i]? = some c → ∃ v, w.cell? (a.add i) = some v ∧ CRel ρ c v) (hblk : ∃ vs el fr, w.heap[a.block]? = some (.cells vs el fr)) :
    ∃ ρ', ρ.le ρ' ∧ R ρ' (H ++ [.cells acs .ro]) w ∧ AllRo (H ++ [.cells acs .ro]) ∧ ∀ len, len ≤ cap → CRel ρ' (.sl es ⟨some (H.length, 0), len, cap⟩) (.slice (some a) len cap) := by
  obtain ⟨vs, el, fr, hb⟩ := hblk
  let off := if acs.length = 0 then 0 else a.off
  have hn := hR.none_of_len
  have hvs : ∀ i c, acs[i]? = some c → ∃ v, vs[a.off + i]? = some v ∧ CRel ρ c v := by
    intro i c hc
    obtain ⟨v, h1, h2⟩ := hcell i c hc
    rw [add_spot hsp] at h1
    obtain ⟨_, vs', el', fr', h3, h4⟩ := cell_inv h1
    rw [hb] at h3
    cases h3
    exact ⟨v, h4, h2⟩
  have hfit : off + acs.length ≤ vs.size := by
    show (if acs.length = 0 then 0 else a.off) + acs.length ≤ vs.size
    split
    · omega
    · obtain ⟨v, h1, _⟩ := hvs (acs.length - 1) (acs[acs.length - 1]'(by omega)) (List.getElem?_eq_getElem (by omega))
      have := (Array.getElem?_eq_some_iff.1 h1).1
      omega
  let pl : Pl := ⟨a.block, off, acs.length, vs.size, true⟩
  have hle : ρ.le (ρ.set H.length pl) := Rho.le_set pl hn
  have hro' : AllRo (H ++ [.cells acs .ro]) := by
    intro x hx
    rcases List.mem_append.1 hx with hx | hx
    · exact hro x hx
    · exact ⟨acs, List.mem_singleton.1 hx⟩
  have hrel : CsRel (ρ.set H.length pl) acs ((vs.toList.drop off).take acs.length) := by
    refine CsRel.of_get (by simp; omega) ?_
    intro i c v hc hv
    obtain ⟨u, h1, h2⟩ := hvs i c hc
    have hi : i < acs.length := (List.getElem?_eq_some_iff.1 hc).1
    have hoff : off = a.off := by show (if acs.length = 0 then 0 else a.off) = a.off; rw [if_neg (by omega)]
    rw [List.getElem?_take_of_lt hi, List.getElem?_drop, hoff, Array.getElem?_toList, h1] at hv
    cases hv
    exact h2.mono hle
  refine ⟨ρ.set H.length pl, hle, ⟨?_, ?_, ?_, ?_, ?_⟩, hro', ?_⟩
  · intro b p h
    by_cases e : b = H.length
    · subst e; simp
    · rw [Rho.set_other _ _ e] at h
      have := hR.dom b p h
      simp; omega
  · intro b p acs' bk h1 h2
    by_cases e : b = H.length
    · subst e
      rw [Rho.set_same] at h1
      cases h1
      simp at h2
      obtain ⟨rfl, rfl⟩ := h2
      exact ⟨⟨vs.toList, el, fr, by rw [Array.toArray_toList]; exact hb, by simp [pl], hrel, fun h => absurd rfl h⟩, rfl, hfit, fun h => (by cases h), fun _ => rfl⟩
    · rw [Rho.set_other _ _ e] at h1
      have hb' := hR.dom _ _ h1
      rw [List.getElem?_append_left hb'] at h2
      exact (hR.blk b p acs' bk h1 h2).mono hle
  · intro b b' p p' x y k1 k2 hne h1 h1' h2 h2' hr
    obtain ⟨cs, h3⟩ := hro' _ (List.mem_of_getElem? h2)
    cases h3
    exact absurd rfl hr
  · intro b p es ck _ h
    obtain ⟨cs, h3⟩ := hro' _ (List.mem_of_getElem? h)
    cases h3
  · intro b b' p p' es es' ck ck' _ _ _ h
    obtain ⟨cs, h3⟩ := hro' _ (List.mem_of_getElem? h)
    cases h3
  · intro len hl
    refine ⟨pl, a, cap, Rho.set_same _ _ _, rfl, hsp, rfl, hl, by simp only [Nat.zero_add]; show cap * es ≤ acs.length; omega, ?_⟩
    by_cases h0 : cap = 0
    · exact .inr ⟨h0, h0⟩
    · left
      have hpos : 0 < cap * es := Nat.mul_pos (by omega) hes
      have hoff : off = a.off := by show (if acs.length = 0 then 0 else a.off) = a.off; rw [if_neg (by omega)]
      refine ⟨by show a.off = off + 0; omega, Nat.le_refl _, .inl rfl, ?_⟩
      show off + 0 + cap * es ≤ vs.size
      omega

section
variable {H0 : Type} {enc : TypeId × Value → H0} {P : Program} {w : World}

def rowsOf (cts : List CT) (rows : List (Tup cts)) : List C := (rows.map (Tup.mk cts)).flatten
theorem Tup.mk_length : ∀ (cts : List CT) (x : Tup cts), (Tup.mk cts x).length = cts.length
  | [], _ => rfl
  | _ :: r, x => by simp [Tup.mk, Tup.mk_length r]
theorem rowsOf_length (cts : List CT) : ∀ rows : List (Tup cts), (rowsOf cts rows).length = rows.length * cts.length
  | [] => by simp [rowsOf]
  | x :: r => by
    have := rowsOf_length cts r
    unfold rowsOf at *
    rw [List.map_cons, List.flatten_cons, List.length_append, this, Tup.mk_length, List.length_cons, Nat.succ_mul, Nat.add_comm]

/-- How a slice of plain cells stands behind the blocks H: nil, or the next block. -/
def Came (cts : List CT) (H : Heap) (s : Sl) (H' : Heap) : Prop :=
  (s = Sl.nil ∧ H' = H) ∨ ∃ (len : Nat) (rows : List (Tup cts)), s = ⟨some (H.length, 0), len, rows.length⟩ ∧ len ≤ rows.length ∧ rows.length ≤ maxLen ∧ H' = H ++ [.cells (rowsOf cts rows) .ro] ∧ ∀ x ∈ rows, ∀ c ∈ Tup.mk cts x, wfC c

/-- A slice of plain cells, opened. -/
theorem open_flats {r : Go.Reach} {b0 : Nat} {t e : TypeId} {d : Nat} {cts : List CT} {v : Value} {dd : DataW H0} {ps : List MemPlace} (ht : P.underlying t = some (.slice e)) (he : flatCts P d e = some cts) (hpos : 0 < cts.length)
    (hv : Value.okWide P w r b0 t v) (h : DataW.Trod enc P w 0 (fun _ => true) true t v dd ps) {ρ : Rho} {H : Heap} (hR : R ρ H w) (hro : AllRo H) :
    ∃ ρ' H' s, ρ.le ρ' ∧ R ρ' H' w ∧ AllRo H' ∧ CRel ρ' (.sl cts.length s) v ∧ Came cts H s H' := by
  obtain ⟨fuel, hf⟩ := h
  obtain ⟨ao, ln, cp, rfl⟩ := okWide_slice ht hv
  obtain ⟨hce, hflat⟩ := trod_flat (enc := enc) (P := P) (w := w) (base := 0) (spare := fun _ => true) (held := true) d e cts he
  rcases Deep.open_slice ht hf with ⟨hcs, _⟩ | ⟨a, len, cap, m, n, D, Pl, hcs, _, hl, hm, hmm, _, hx⟩
  · simp [Value.cells] at hcs
    obtain ⟨rfl, rfl, rfl⟩ := hcs
    exact ⟨ρ, H, Sl.nil, Rho.le_refl _, hR, hro, ⟨rfl, rfl, rfl⟩, .inl ⟨rfl, rfl⟩⟩
  · simp [Value.cells] at hcs
    obtain ⟨rfl, rfl, rfl⟩ := hcs
    rw [if_pos rfl] at hmm
    subst hmm
    have hsh : a.spot = none ∧ ∃ vs el fr, w.heap[a.block]? = some (.cells vs el fr) := by
      simp only [Value.okWide, ht, Cell.okWide, Cell.ok] at hv
      obtain ⟨_, _, _, h1, row, cells, h2, _⟩ := hv
      refine ⟨h1, ?_⟩
      unfold World.shape? at h2
      split at h2
      · rename_i vs el fr hb; exact ⟨vs, el, fr, hb⟩
      · cases h2
    have build : ∀ k, k ≤ m → ∃ rows : List (Tup cts), rows.length = k ∧ (∀ x ∈ rows, ∀ c ∈ Tup.mk cts x, wfC c) ∧ ∀ i c, (rowsOf cts rows)[i]? = some c → ∃ u, w.cell? (a.add i) = some u ∧ CRel ρ c u := by
      intro k
      induction k with
      | zero => intro _; exact ⟨[], rfl, fun _ h => (by cases h), fun i c h => (by simp [rowsOf] at h)⟩
      | succ k ih =>
        intro hk
        obtain ⟨rows, h1, h2, h3⟩ := ih (by omega)
        obtain ⟨cs', g1, g2⟩ := hx k (by omega)
        obtain ⟨acs, q1, q2, q3⟩ := hflat _ _ _ g2
        obtain ⟨x, hxx⟩ := typed_of acs
        subst q1
        rw [hce] at g1
        obtain ⟨_, hlen, hcell⟩ := World.cells?_some g1
        refine ⟨rows ++ [x], by simp [h1], ?_, ?_⟩
        · intro y hy
          rcases List.mem_append.1 hy with hy | hy
          · exact h2 y hy
          · rw [List.mem_singleton.1 hy, hxx]; exact q3
        · intro i c hc
          have hro : rowsOf (acs.map C.ct) (rows ++ [x]) = rowsOf (acs.map C.ct) rows ++ acs := by simp [rowsOf, hxx]
          rw [hro] at hc
          by_cases hi : i < (rowsOf (acs.map C.ct) rows).length
          · rw [List.getElem?_append_left hi] at hc; exact h3 i c hc
          · rw [List.getElem?_append_right (by omega)] at hc
            obtain ⟨u, k1, k2⟩ := (q2 ρ).get hc
            have hj := (List.getElem?_eq_some_iff.1 k1).1
            have hcc := hcell (i - (rowsOf (acs.map C.ct) rows).length) (by omega)
            rw [Deep.add_add, rowsOf_length, h1] at hcc
            refine ⟨u, ?_, k2⟩
            rw [rowsOf_length, h1] at hi k1
            rw [show k * (acs.map C.ct).length + (i - k * (acs.map C.ct).length) = i by omega] at hcc
            rw [hcc]; exact k1
    obtain ⟨rows, h1, h2, h3⟩ := build m (Nat.le_refl _)
    obtain ⟨ρ', r1, r2, r3, r4⟩ := hR.addRo hro (a := a) (acs := rowsOf cts rows) (es := cts.length) (cap := m) (by rw [rowsOf_length, h1]) hpos hsh.1 h3 hsh.2
    refine ⟨ρ', _, ⟨some (H.length, 0), ln, m⟩, r1, r2, r3, r4 ln hl, .inr ⟨ln, rows, by rw [h1], by rw [h1]; exact hl, by rw [h1]; exact hm, rfl, h2⟩⟩

/-- A struct of plain cells, opened. -/
theorem open_agg {r : Go.Reach} {b0 : Nat} {t : TypeId} {fs : Array Field} {d : Nat} {cts : List CT} {v : Value} {dd : DataW H0} {ps : List MemPlace} (ht : P.underlying t = some (.struct fs)) (he : flatCts P d t = some cts)
    (hv : Value.okWide P w r b0 t v) (h : DataW.Trod enc P w 0 (fun _ => true) true t v dd ps) : ∃ x : Tup cts, (∀ ρ, WRel ρ (.agg (Tup.mk cts x)) v) ∧ ∀ c ∈ Tup.mk cts x, wfC c := by
  obtain ⟨fuel, hf⟩ := h
  obtain ⟨_, hflat⟩ := trod_flat (enc := enc) (P := P) (w := w) (base := 0) (spare := fun _ => true) (held := true) d t cts he
  simp only [Value.okWide, ht] at hv
  obtain ⟨cs, rfl, _, _⟩ := hv
  obtain ⟨acs, q1, q2, q3⟩ := hflat _ _ _ hf
  obtain ⟨x, hx⟩ := typed_of acs
  subst q1
  refine ⟨x, fun ρ => ⟨cs.toList, by simp, ?_⟩, by rw [hx]; exact q3⟩
  rw [hx]
  simpa [Value.cells] using q2 ρ

theorem wf_c {k : IntKind} {n : Int} (h : (Lit.int k n).wf = true) : wfC (.int k n) := by simpa [Lit.wf, wfC] using h

theorem trod_back {B : World} {t : TypeId} {v : Value} {d : DataW H0} {ps : List MemPlace} (hl : laidOutB P = true) (hr : P.readableRec t = true) (hrow : t < P.types.size)
    (h : DataW.Trod enc P w 0 (fun _ => true) true t v d ps) (hb : RowKit.Below w.heap.size w B) : DataW.Trod enc P B 0 (fun b => decide (b < w.heap.size)) true t v d ps := by
  refine RowKit.Below.trod hl hr hrow h hb ?_
  obtain ⟨m, hm⟩ := h
  exact DataW.trod_lt m _ _ _ hm
end
end Ev
