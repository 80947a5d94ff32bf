/- The same memory under other numbers of blocks. Regions whose order is given; one operation of a region, with its guard. Statements: what the evaluator tells of them is what the machine does. Regions that draw stand as a premise here. Functions: of the evaluator's word for a function to a call of it. One operation by itself: what it reads, what it tells, what it does to the heap. Kinds of operations; a new block that enters late. Regions of which the order is drawn. Every order that is drawn tells the same. From a function's check to a sound callee. -/
import Derived.Test.YtbnghapbakaheaaEvOpH
import Derived.Orders
import Derived.LoopN
import Derived.Maps.RangeRun
import Derived.Scope
namespace Ev
open Go

theorem PsRel.back {ρ ρ' : Rho} (h : ρ.le ρ') : ∀ {ps : List Ptr} {us vs : List Value}, PsRel ρ ps us → PsRel ρ' ps vs → PsRel ρ ps vs
  | [], [], [], _, _ => trivial
  | none :: _, _ :: _, _ :: _, hu, hv => ⟨hv.1, PsRel.back h hu.2 hv.2⟩
  | some a :: ps, u :: us, v :: vs, ⟨⟨pl, h1, h2⟩, hu⟩, ⟨⟨pl', h3, h4⟩, hv⟩ => by
    have := h _ _ h1
    rw [h3] at this; cases this
    exact ⟨⟨_, h1, h4⟩, PsRel.back h hu hv⟩
  | [], _ :: _, _, hu, _ => hu.elim
  | none :: _, [], _, hu, _ => hu.elim
  | some _ :: _, [], _, hu, _ => hu.elim
  | [], [], _ :: _, _, hv => hv.elim
  | none :: _, _ :: _, [], _, hv => hv.elim
  | some _ :: _, _ :: _, [], _, hv => hv.elim
/-- What is known by the old names of a block that was known by them before. -/
theorem CRel.back {ρ ρ' : Rho} (h : ρ.le ρ') {c : C} {u v : Value} (hu : CRel ρ c u) (hv : CRel ρ' c v) : CRel ρ c v := by
  match c with
  | .int _ _ => exact hv
  | .bool _ => exact hv
  | .str _ => exact hv
  | .ptr none => exact hv
  | .ptr (some a) =>
    obtain ⟨pl, h1, _⟩ := hu
    obtain ⟨pl', h3, h4⟩ := hv
    have := h _ _ h1
    rw [h3] at this; cases this
    exact ⟨_, h1, h4⟩
  | .sl _ ⟨none, _, _⟩ => exact hv
  | .sl _ ⟨some a, _, _⟩ =>
    obtain ⟨pl, _, _, h1, _⟩ := hu
    obtain ⟨pl', x, c', h3, h4⟩ := hv
    have := h _ _ h1
    rw [h3] at this; cases this
    exact ⟨_, x, c', h1, h4⟩
  | .mp none => exact hv
  | .mp (some b) =>
    obtain ⟨pl, h1, _⟩ := hu
    obtain ⟨pl', h3, h4⟩ := hv
    have := h _ _ h1
    rw [h3] at this; cases this
    exact ⟨_, h1, h4⟩
  | .fn _ => exact hv
  | .clo _ _ =>
    obtain ⟨us, _, h1⟩ := hu
    obtain ⟨vs, h2, h3⟩ := hv
    exact ⟨vs, h2, PsRel.back h h1 h3⟩
theorem CsRel.back {ρ ρ' : Rho} (h : ρ.le ρ') : ∀ {cs : List C} {us vs : List Value}, CsRel ρ cs us → CsRel ρ' cs vs → CsRel ρ cs vs
  | [], [], [], _, _ => trivial
  | _ :: _, _ :: _, _ :: _, hu, hv => ⟨hu.1.back h hv.1, hu.2.back h hv.2⟩
  | [], _ :: _, _, hu, _ => hu.elim
  | _ :: _, [], _, hu, _ => hu.elim
  | [], [], _ :: _, _, hv => hv.elim
  | _ :: _, _ :: _, [], _, hv => hv.elim

theorem WRel.back {ρ ρ' : Rho} (h : ρ.le ρ') {x : W} {u v : Value} (hu : WRel ρ x u) (hv : WRel ρ' x v) : WRel ρ x v := by
  cases x with
  | one c => exact CRel.back h (c := c) hu hv
  | agg cs =>
    obtain ⟨us, h1, h2⟩ := hu
    obtain ⟨vs, h3, h4⟩ := hv
    exact ⟨vs, h3, h2.back h h4⟩
theorem EsRel.back {ρ ρ' : Rho} (h : ρ.le ρ') : ∀ {es : MEs} {us vs : List MapEntry}, EsRel ρ es us → EsRel ρ' es vs → EsRel ρ es vs
  | [], [], [], _, _ => trivial
  | _ :: _, _ :: _, _ :: _, hu, hv => ⟨⟨hv.1.1, hu.1.2.back h hv.1.2⟩, EsRel.back h hu.2 hv.2⟩
  | [], _ :: _, _, hu, _ => hu.elim
  | _ :: _, [], _, hu, _ => hu.elim
  | [], [], _ :: _, _, hv => hv.elim
  | _ :: _, _ :: _, [], _, hv => hv.elim


def Rho.ren (π' : Nat → Nat) (ρ : Rho) : Rho := fun b => ρ (π' b)

section
variable {π π' : Nat → Nat} {ρ : Rho}
theorem PsRel.ren (hl : ∀ b, π' (π b) = b) : ∀ {ps : List Ptr} {vs : List Value}, PsRel ρ ps vs → PsRel (ρ.ren π') (ps.map (renP π)) vs
  | [], [], _ => trivial
  | none :: _, _ :: _, ⟨a, b⟩ => ⟨a, PsRel.ren hl b⟩
  | some a :: _, _ :: _, ⟨⟨pl, h1, h2⟩, b⟩ => ⟨⟨pl, by show ρ (π' (π a.1)) = _; rw [hl]; exact h1, h2⟩, PsRel.ren hl b⟩
  | [], _ :: _, r => r.elim
  | none :: _, [], r => r.elim
  | some _ :: _, [], r => r.elim
theorem CRel.ren (hl : ∀ b, π' (π b) = b) {c : C} {v : Value} (r : CRel ρ c v) : CRel (ρ.ren π') (c.ren π) v := by
  match c with
  | .int _ _ => exact r
  | .bool _ => exact r
  | .str _ => exact r
  | .ptr none => exact r
  | .ptr (some a) =>
    obtain ⟨pl, h1, h2⟩ := r
    exact (⟨pl, by show ρ (π' (π a.1)) = _; rw [hl]; exact h1, h2⟩ : CRel (ρ.ren π') (.ptr (some (π a.1, a.2))) v)
  | .sl _ ⟨none, _, _⟩ => exact r
  | .sl es ⟨some a, len, cap⟩ =>
    obtain ⟨pl, x, c', h1, h2⟩ := r
    exact (⟨pl, x, c', by show ρ (π' (π a.1)) = _; rw [hl]; exact h1, h2⟩ : CRel (ρ.ren π') (.sl es ⟨some (π a.1, a.2), len, cap⟩) v)
  | .mp none => exact r
  | .mp (some b) =>
    obtain ⟨pl, h1, h2⟩ := r
    exact (⟨pl, by show ρ (π' (π b)) = _; rw [hl]; exact h1, h2⟩ : CRel (ρ.ren π') (.mp (some (π b))) v)
  | .fn _ => exact r
  | .clo _ _ => obtain ⟨vs, h1, h2⟩ := r; exact ⟨vs, h1, h2.ren hl⟩
theorem CsRel.ren (hl : ∀ b, π' (π b) = b) : ∀ {cs : List C} {vs : List Value}, CsRel ρ cs vs → CsRel (ρ.ren π') (cs.map (C.ren π)) vs
  | [], [], _ => trivial
  | _ :: _, _ :: _, ⟨a, b⟩ => ⟨a.ren hl, CsRel.ren hl b⟩
  | [], _ :: _, r => r.elim
  | _ :: _, [], r => r.elim
theorem WRel.ren (hl : ∀ b, π' (π b) = b) {x : W} {v : Value} (r : WRel ρ x v) : WRel (ρ.ren π') (x.ren π) v := by
  cases x with
  | one c => exact CRel.ren hl (c := c) r
  | agg cs => obtain ⟨vs, h1, h2⟩ := r; exact ⟨vs, h1, h2.ren hl⟩
theorem EsRel.ren (hl : ∀ b, π' (π b) = b) : ∀ {es : MEs} {l : List MapEntry}, EsRel ρ es l → EsRel (ρ.ren π') (es.map fun x => (x.1, x.2.ren π)) l
  | [], [], _ => trivial
  | _ :: _, _ :: _, ⟨⟨a, b⟩, r⟩ => ⟨⟨a, b.ren hl⟩, EsRel.ren hl r⟩
  | [], _ :: _, r => r.elim
  | _ :: _, [], r => r.elim
theorem BlkRel.ren (hl : ∀ b, π' (π b) = b) {pl : Pl} {acs : List C} {bk : BK} {w : World} (r : BlkRel ρ pl acs bk w) : BlkRel (ρ.ren π') pl (acs.map (C.ren π)) bk w := by
  obtain ⟨⟨vs, el, fr, h1, h2, h3, h4⟩, a, b, c, d⟩ := r
  exact ⟨⟨vs, el, fr, h1, h2, h3.ren hl, h4⟩, by rw [List.length_map]; exact a, b, c, d⟩
theorem MpRel.ren (hl : ∀ b, π' (π b) = b) {pl : Pl} {es : MEs} {w : World} (r : MpRel ρ pl es w) : MpRel (ρ.ren π') pl (es.map fun x => (x.1, x.2.ren π)) w := by
  obtain ⟨⟨ents, l, ck, h1, h2, h3, h4⟩, a⟩ := r
  exact ⟨⟨ents, l, ck, h1, h2, h3.ren hl, h4⟩, List.pairwise_map.2 a⟩

/-- Whoever knows memory by some numbers knows it by others. -/
theorem R.rename {ρ0 : Rho} {H0 H1 H2 : Heap} {w0 w : World} (r0 : R ρ0 H0 w0) (r : R ρ H1 w) (xle : ρ0.le ρ) (xnew : ∀ b pl, ρ b = some pl → ρ0 b = none → H0.length ≤ b) (al : Alike H0 H1 H2) :
    ∃ ρ', ρ0.le ρ' ∧ R ρ' H2 w ∧ ∀ {ρb : Rho} {Hb : Heap} {wb : World}, R ρb Hb wb → Hb.length ≤ H0.length → Ext ρb Hb wb ρ H1 w → Ext ρb Hb wb ρ' H2 w := by
  obtain ⟨π, π', hl, hr, hN, hlen, hb⟩ := al
  have hN' : ∀ b, b < H0.length → π' b = b := fun b h => by have := hl b; rw [hN b h] at this; exact this
  have inj : ∀ {b b'}, π' b = π' b' → b = b' := fun {b b'} h => by rw [← hr b, ← hr b', h]
  have le : ρ0.le (ρ.ren π') := fun b pl h => by
    show ρ (π' b) = _
    rw [hN' b (r0.dom _ _ h)]; exact xle _ _ h
  -- what stands there
  have cell : ∀ {b acs bk}, H2[b]? = some (.cells acs bk) → (∃ a0, H1[π' b]? = some (.cells a0 bk) ∧ acs = a0.map (C.ren π)) ∨ (b < H0.length ∧ π' b = b ∧ H1[b]? = some (.cells acs bk) ∧ H0[b]? = some (.cells acs bk)) := by
    intro b acs bk h
    rcases hb (π' b) with h1 | ⟨h1, h2, h3⟩
    · rw [hr b, h] at h1
      cases hx : H1[π' b]? with
      | none => rw [hx] at h1; cases h1
      | some y =>
        rw [hx] at h1
        cases y with
        | cells a0 bk0 => simp only [Option.map_some, Blk.ren, Option.some.injEq, Blk.cells.injEq] at h1; exact .inl ⟨a0, by rw [h1.2], h1.1⟩
        | dead => simp [Blk.ren] at h1
        | mp es dc => simp [Blk.ren] at h1
    · have e : b = π' b := by have := hN _ h1; rw [hr] at this; exact this
      rw [← e] at h1 h2 h3
      rw [h] at h3
      exact .inr ⟨h1, e.symm, h2.trans h3.symm, h3.symm⟩
  have mp : ∀ {b es dc}, H2[b]? = some (.mp es dc) → (∃ e0, H1[π' b]? = some (.mp e0 dc) ∧ es = e0.map fun x => (x.1, x.2.ren π)) ∨ (b < H0.length ∧ π' b = b ∧ H1[b]? = some (.mp es dc) ∧ H0[b]? = some (.mp es dc)) := by
    intro b es dc h
    rcases hb (π' b) with h1 | ⟨h1, h2, h3⟩
    · rw [hr b, h] at h1
      cases hx : H1[π' b]? with
      | none => rw [hx] at h1; cases h1
      | some y =>
        rw [hx] at h1
        cases y with
        | cells a0 bk0 => simp [Blk.ren] at h1
        | dead => simp [Blk.ren] at h1
        | mp e0 dc0 => simp only [Option.map_some, Blk.ren, Option.some.injEq, Blk.mp.injEq] at h1; exact .inl ⟨e0, by rw [h1.2], h1.1⟩
    · have e : b = π' b := by have := hN _ h1; rw [hr] at this; exact this
      rw [← e] at h1 h2 h3
      rw [h] at h3
      exact .inr ⟨h1, e.symm, h2.trans h3.symm, h3.symm⟩
  have cell' : ∀ {b acs bk}, H2[b]? = some (.cells acs bk) → ∃ a0, H1[π' b]? = some (.cells a0 bk) := by
    intro b acs bk h
    rcases cell h with ⟨a0, h1, _⟩ | ⟨_, h1, h2, _⟩
    · exact ⟨a0, h1⟩
    · rw [h1]; exact ⟨_, h2⟩
  have mp' : ∀ {b es dc}, H2[b]? = some (.mp es dc) → ∃ e0, H1[π' b]? = some (.mp e0 dc) := by
    intro b es dc h
    rcases mp h with ⟨a0, h1, _⟩ | ⟨_, h1, h2, _⟩
    · exact ⟨a0, h1⟩
    · rw [h1]; exact ⟨_, h2⟩
  have old : ∀ {b pl}, b < H0.length → ρ b = some pl → ρ0 b = some pl := by
    intro b pl h h1
    cases h2 : ρ0 b with
    | none => have := xnew b pl h1 h2; omega
    | some p => have := xle _ _ h2; rw [h1] at this; cases this; rfl
  refine ⟨ρ.ren π', le, ⟨?_, ?_, ?_, ?_, ?_⟩, fun {ρb} {Hb} {wb} rb hbn x => ⟨fun b pl h => ?_, by rw [← hlen]; exact x.len, ?_, ?_, x.size, x.os, x.tape, x.output, x.frame, ?_⟩⟩
  · intro b pl h
    have h1 : π' b < H1.length := r.dom _ _ h
    rcases hb (π' b) with h2 | ⟨h2, h3, h4⟩
    · rw [hr b, List.getElem?_eq_getElem h1] at h2
      rcases Nat.lt_or_ge b H2.length with h3 | h3
      · exact h3
      · rw [List.getElem?_eq_none h3] at h2; cases h2
    · have e : b = π' b := by have := hN _ h2; rw [hr] at this; exact this
      rw [← e] at h2
      have h5 : b < H1.length := by rw [e]; exact h1
      omega
  · intro b pl acs bk h h'
    rcases cell h' with ⟨a0, h1, rfl⟩ | ⟨h1, h2, h3, h4⟩
    · exact (r.blk _ pl a0 bk h h1).ren hl
    · have h : ρ b = some pl := by have h : ρ (π' b) = some pl := h; rwa [h2] at h
      obtain ⟨⟨vs, el, fr, g1, g2, g3, g4⟩, a, b', c, d⟩ := r.blk b pl acs bk h h3
      obtain ⟨⟨us, _, _, _, _, q3, _⟩, _⟩ := r0.blk b pl acs bk (old h1 h) h4
      exact ⟨⟨vs, el, fr, g1, g2, (q3.back xle g3).mono le, g4⟩, a, b', c, d⟩
  · intro b b' pl pl' a a' k k' hne g1 g2 g3 g4 hro
    obtain ⟨_, g3⟩ := cell' g3
    obtain ⟨_, g4⟩ := cell' g4
    exact r.sep _ _ pl pl' _ _ _ _ (fun e => hne (inj e)) g1 g2 g3 g4 hro
  · intro b pl es dc h h'
    rcases mp h' with ⟨a0, h1, rfl⟩ | ⟨h1, h2, h3, h4⟩
    · exact (r.mp _ pl a0 dc h h1).ren hl
    · have h : ρ b = some pl := by have h : ρ (π' b) = some pl := h; rwa [h2] at h
      obtain ⟨⟨ents, l, ck, g1, g2, g3, g4⟩, a⟩ := r.mp b pl es dc h h3
      obtain ⟨⟨_, _, _, _, _, q3, _⟩, _⟩ := r0.mp b pl es dc (old h1 h) h4
      exact ⟨⟨ents, l, ck, g1, g2, (q3.back xle g3).mono le, g4⟩, a⟩
  · intro b b' pl pl' es es' dc dc' hne g1 g2 g3 g4
    obtain ⟨_, g3⟩ := mp' g3
    obtain ⟨_, g4⟩ := mp' g4
    exact r.sepm _ _ pl pl' _ _ _ _ (fun e => hne (inj e)) g1 g2 g3 g4
  · show ρ (π' b) = _
    rw [hN' b (Nat.lt_of_lt_of_le (rb.dom _ _ h) hbn)]; exact x.le _ _ h
  · intro b pl h h'
    have h : ρ (π' b) = some pl := h
    have h0 : ρb (π' b) = none := by
      cases h2 : ρb (π' b) with
      | none => rfl
      | some p =>
        have h3 := Nat.lt_of_lt_of_le (rb.dom _ _ h2) hbn
        have h4 := hN _ h3
        rw [hr] at h4
        rw [← h4, h'] at h2; cases h2
    obtain ⟨g1, g2⟩ := x.new _ pl h h0
    refine ⟨?_, g2⟩
    rcases Nat.lt_or_ge b Hb.length with hlt | hge
    · rw [hN' b (by omega)] at g1; exact g1
    · exact hge
  · intro b hlt hw
    have hfix := hN' b (by omega)
    rcases hw with ⟨a, k, h1, h2⟩ | ⟨es, dc, h1⟩
    · rcases cell h1 with ⟨a0, h3, _⟩ | ⟨_, _, h3, _⟩
      · rw [hfix] at h3; exact x.wr b hlt (.inl ⟨a0, k, h3, h2⟩)
      · exact x.wr b hlt (.inl ⟨a, k, h3, h2⟩)
    · rcases mp h1 with ⟨a0, h3, _⟩ | ⟨_, _, h3, _⟩
      · rw [hfix] at h3; exact x.wr b hlt (.inr ⟨a0, dc, h3⟩)
      · exact x.wr b hlt (.inr ⟨es, dc, h3⟩)
  · intro b pl es dc h1 h2
    obtain ⟨es', dc', h3, h4⟩ := x.maps b pl es dc h1 h2
    have hlt := Nat.lt_of_lt_of_le (rb.dom _ _ h1) hbn
    rcases hb b with h5 | ⟨_, h6, h7⟩
    · rw [hN b hlt, h3] at h5
      refine ⟨_, _, h5, ?_⟩
      obtain ⟨m1, m2⟩ := h4
      refine ⟨m1, fun e => ?_⟩
      obtain ⟨m3, m4⟩ := m2 e
      exact ⟨by rw [List.length_map]; exact m3, fun e' => m4 (by rw [List.length_map] at e'; exact e')⟩
    · rw [h6] at h3
      exact ⟨es', dc', h7.trans h3, h4⟩
end

/-- A new block of which nothing is said. -/
theorem R.newDead {ρ : Rho} {H : Heap} {w : World} (r : R ρ H w) (o : Obj) : R (ρ.set H.length ⟨w.heap.size, 0, 0, 0, false⟩) (H ++ [.dead]) (w.alloc o) ∧
    Ext ρ H w (ρ.set H.length ⟨w.heap.size, 0, 0, 0, false⟩) (H ++ [.dead]) (w.alloc o) := by
  have hn := r.none_of_len
  have hle := Rho.le_set ⟨w.heap.size, 0, 0, 0, false⟩ hn
  have hw : (w.alloc o).heap = w.heap.push o := rfl
  have hold : ∀ k, k < w.heap.size → (w.alloc o).heap[k]? = w.heap[k]? := fun k hk => by rw [hw, getElem?_push_lt _ _ hk]
  have go : ∀ {x : Nat} {y : Blk}, (H ++ [Blk.dead])[x]? = some y → y ≠ .dead → x < H.length ∧ H[x]? = some y := by
    intro x y h hy
    rcases Nat.lt_or_ge x H.length with hx | hx
    · rw [List.getElem?_append_left hx] at h; exact ⟨hx, h⟩
    · rw [List.getElem?_append_right hx] at h
      cases hc : x - H.length with
      | zero => simp [hc] at h; exact absurd h.symm hy
      | succ n => simp [hc] at h
  refine ⟨⟨?_, ?_, ?_, ?_, ?_⟩, ⟨hle, by simp, ?_, fun b hb h => wrB_left hb h, by rw [hw]; simp, rfl, rfl, rfl, fun k hk _ => hold k hk, fun b pl es dc h1 h2 => ⟨es, dc, by rw [List.getElem?_append_left (r.dom _ _ h1)]; exact h2, MapStep.same (r.mp b pl es dc h1 h2) (hold _ (r.mp b pl es dc h1 h2).lt)⟩⟩⟩
  · intro b pl h
    by_cases e : b = H.length
    · subst e; simp
    · rw [Rho.set_other _ _ e] at h
      have := r.dom _ _ h
      simp; omega
  · intro b pl acs bk h1 h2
    obtain ⟨hb, h2⟩ := go h2 (by simp)
    rw [Rho.set_other _ _ (by omega)] at h1
    have q := r.blk b pl acs bk h1 h2
    exact (q.world (hold _ q.lt)).mono hle
  · intro b b' pl pl' a1 a2 k1 k2 hne h1 h1' h2 h2' hr
    obtain ⟨hb, h2⟩ := go h2 (by simp)
    obtain ⟨hb', h2'⟩ := go h2' (by simp)
    rw [Rho.set_other _ _ (by omega)] at h1 h1'
    exact r.sep b b' pl pl' a1 a2 k1 k2 hne h1 h1' h2 h2' hr
  · intro b pl e1 c1 h1 h2
    obtain ⟨hb, h2⟩ := go h2 (by simp)
    rw [Rho.set_other _ _ (by omega)] at h1
    have q := r.mp b pl e1 c1 h1 h2
    exact (q.world (hold _ q.lt)).mono hle
  · intro b b' pl pl' e1 e2 c1 c2 hne h1 h1' h2 h2'
    obtain ⟨hb, h2⟩ := go h2 (by simp)
    obtain ⟨hb', h2'⟩ := go h2' (by simp)
    rw [Rho.set_other _ _ (by omega)] at h1 h1'
    exact r.sepm b b' pl pl' e1 e2 c1 c2 hne h1 h1' h2 h2'
  · intro b pl h1 h2
    by_cases e : b = H.length
    · subst e
      rw [Rho.set_same] at h1
      cases h1
      exact ⟨Nat.le_refl _, .inl (Nat.le_refl _)⟩
    · rw [Rho.set_other _ _ e] at h1
      rw [h1] at h2; cases h2

/-- Another object at a place where no block of ours stands. -/
theorem R.aside {ρ : Rho} {H : Heap} {w w' : World} (r : R ρ H w) {K : Nat} (hc : ∀ vs el fr, w.heap[K]? ≠ some (.cells vs el fr)) (hm : ∀ es ck, w.heap[K]? ≠ some (.map es ck)) (h : ∀ k, k ≠ K → w'.heap[k]? = w.heap[k]?) : R ρ H w' := by
  have k1 : ∀ {pl acs bk}, BlkRel ρ pl acs bk w → pl.k ≠ K := fun {pl acs bk} q e => by
    obtain ⟨⟨vs, el, fr, h1, _⟩, _⟩ := q
    rw [e] at h1
    exact hc _ _ _ h1
  have k2 : ∀ {pl es}, MpRel ρ pl es w → pl.k ≠ K := fun {pl es} q e => by
    obtain ⟨⟨ents, l, ck, h1, _⟩, _⟩ := q
    rw [e] at h1
    exact hm _ _ h1
  exact ⟨r.dom, fun b pl acs bk h1 h2 => (r.blk b pl acs bk h1 h2).world (h _ (k1 (r.blk b pl acs bk h1 h2))), r.sep, fun b pl es ck h1 h2 => (r.mp b pl es ck h1 h2).world (h _ (k2 (r.mp b pl es ck h1 h2))), r.sepm⟩

theorem WsRel.back {ρ ρ' : Rho} (h : ρ.le ρ') : ∀ {xs : List W} {us vs : List Value}, WsRel ρ xs us → WsRel ρ' xs vs → WsRel ρ xs vs
  | [], [], [], _, _ => trivial
  | _ :: _, _ :: _, _ :: _, hu, hv => ⟨hu.1.back h hv.1, WsRel.back h hu.2 hv.2⟩
  | [], _ :: _, _, hu, _ => hu.elim
  | _ :: _, [], _, hu, _ => hu.elim
  | [], [], _ :: _, _, hv => hv.elim
  | _ :: _, _ :: _, [], _, hv => hv.elim
theorem VRel.back {ρ ρ' : Rho} (h : ρ.le ρ') {x : V} {u v : Value} (hu : VRel ρ x u) (hv : VRel ρ' x v) : VRel ρ x v := by
  cases x with
  | und => trivial
  | off => exact hv
  | w x => exact WRel.back h (x := x) hu hv
  | tup xs =>
    obtain ⟨us, h1, h2⟩ := hu
    obtain ⟨vs, h3, h4⟩ := hv
    exact ⟨vs, h3, h2.back h h4⟩
end Ev
namespace Ev
open Go
section
variable {P : Program} {Q : Exit → Act → World → Prop} {a : Act} {w : World}
variable {R0 : Type} {k : Env → Heap → Option R0} {r : R0} {ρ : Rho} {H : Heap} {e : Env} {calls : Nat → Option Callee} {fids : Nat → Option FuncId}

theorem Env.get_cons (s : Nat) (v : V) (e : Env) (t : Nat) : Env.get ((s, v) :: e) t = if s = t then v else e.get t := by
  simp only [Env.get]
  by_cases h : s = t
  · subst h; simp
  · have : Nat.beq s t = false := by
      cases hb : Nat.beq s t with
      | false => rfl
      | true => exact absurd (Nat.eq_of_beq_eq_true hb) h
    rw [this, if_neg h]; rfl

theorem put_get_other {e : Env} {d : Option Nat} {v : V} {t : Nat} (h : d ≠ some t) : (put e d v).get t = e.get t := by
  cases d with
  | none => rfl
  | some s => rw [put, Env.get_cons, if_neg (fun hh => h (by rw [hh]))]

theorem EnvRel.mono {ρ ρ' : Rho} (h : ρ.le ρ') (he : EnvRel ρ e a) : EnvRel ρ' e a := fun t => (he t).mono h

theorem getD_put_same {d : Nat} {v : Value} (h : d < a.tmps.size) : (a.put (some d) v).tmps.getD d undef = v := by
  simp [Act.put, Array.getD, h]
theorem getD_put_other {d : Option Nat} {v : Value} {t : Nat} (h : d ≠ some t) : (a.put d v).tmps.getD t undef = a.tmps.getD t undef := by
  cases d with
  | none => rfl
  | some d =>
    have hne : d ≠ t := fun hh => h (by rw [hh])
    simp only [Act.put, Array.getD_eq_getD_getElem?]
    rw [Array.getElem?_setIfInBounds_ne hne]

def dstOK (nt : Nat) : Option Nat → Bool
  | none => true
  | some d => Nat.blt d nt

theorem EnvRel.put {v : V} {v' : Value} {d : Option Nat} {nt : Nat} (he : EnvRel ρ e a) (hv : VRel ρ v v') (hd : dstOK nt d = true) (hs : nt ≤ a.tmps.size) : EnvRel ρ (put e d v) (a.put d v') := by
  intro t
  by_cases h : d = some t
  · subst h
    have hlt : t < nt := by simpa [dstOK] using hd
    rw [getD_put_same (by omega)]
    rw [Ev.put, Env.get_cons, if_pos rfl]; exact hv
  · rw [put_get_other h, getD_put_other h]; exact he t

theorem put_size {d : Option Nat} {v : Value} : (a.put d v).tmps.size = a.tmps.size := by cases d <;> simp [Act.put]
theorem put_defers {d : Option Nat} {v : Value} : (a.put d v).defers = a.defers := by cases d <;> rfl

theorem EnvRel.narrow {t : Nat} {v : V} (he : EnvRel ρ e a) (h : e.get t = v) : EnvRel ρ ((t, v) :: e) a := by
  intro s
  rw [Env.get_cons]
  split
  · rename_i hh; subst hh; rw [← h]; exact he t
  · exact he s

def guardOK (ops : Array Oper) : Option (Nat × Bool) → Option (Nat × Bool) → Bool
  | none, none => true
  | some (t, b), some (g, b') => decide (b = b') && decide ((ops[g]?).bind (·.dst) = some t)
  | _, _ => false

def aoperOK (P : Program) (fids : Nat → Option FuncId) (nt : Nat) (ops : Array Oper) (x : AOper) (o : Oper) : Bool :=
  decide (x.dst = o.dst) && dstOK nt x.dst && guardOK ops x.guard o.guard && opOK P fids x.op o.op

theorem wanted_none {ops : Array Oper} {o : Oper} (h : guardOK ops none o.guard = true) (tm : Array Value) : Region.wanted o (yielded ops tm) = true := by
  cases hg : o.guard with
  | none => simp [Region.wanted, hg]
  | some g => rw [hg] at h; cases h
theorem wanted_bool {ops : Array Oper} {o : Oper} {t : Nat} {b g : Bool} (h : guardOK ops (some (t, b)) o.guard = true) (he : EnvRel ρ e a) (hv : e.get t = .w (.one (.bool g))) :
    Region.wanted o (yielded ops a.tmps) = (g == b) := by
  cases hg : o.guard with
  | none => rw [hg] at h; cases h
  | some gw =>
    obtain ⟨j, want⟩ := gw
    rw [hg] at h
    simp only [guardOK, Bool.and_eq_true, decide_eq_true_eq] at h
    obtain ⟨rfl, h2⟩ := h
    have := he t
    rw [hv] at this
    have this : a.tmps.getD t undef = .bool g := this
    have ht : a.tmps[t]? = some (.bool g) := by
      rw [Array.getD_eq_getD_getElem?] at this
      cases hx : a.tmps[t]? with
      | none => rw [hx] at this; cases this
      | some y => rw [hx] at this; rw [← this]; rfl
    simp only [Region.wanted, hg, yielded, h2, Option.bind_some, ht]
    cases g <;> cases b <;> rfl
theorem wanted_off {ops : Array Oper} {o : Oper} {t : Nat} {b : Bool} (h : guardOK ops (some (t, b)) o.guard = true) (he : EnvRel ρ e a) (hv : e.get t = .off) :
    Region.wanted o (yielded ops a.tmps) = false := by
  cases hg : o.guard with
  | none => rw [hg] at h; cases h
  | some gw =>
    obtain ⟨j, want⟩ := gw
    rw [hg] at h
    simp only [guardOK, Bool.and_eq_true, decide_eq_true_eq] at h
    obtain ⟨rfl, h2⟩ := h
    have := he t
    rw [hv] at this
    have this : a.tmps.getD t undef = undef := this
    simp only [Region.wanted, hg, yielded, h2, Option.bind_some]
    rw [Array.getD_eq_getD_getElem?] at this
    cases hx : a.tmps[t]? with
    | none => rfl
    | some y =>
      rw [hx] at this
      have this : y = undef := this
      subst this; rfl

/-- What is kept from one state to a later one. -/
structure Step (nt : Nat) (ds : List Nat) (ρ : Rho) (e : Env) (H : Heap) (a : Act) (w : World) (ρ' : Rho) (e' : Env) (H' : Heap) (a' : Act) (w' : World) : Prop where
  rel : R ρ' H' w'
  env : EnvRel ρ' e' a'
  ext : Ext ρ H w ρ' H' w'
  size : nt ≤ a'.tmps.size
  defers : a'.defers = a.defers
  agree : ∀ t, t ∉ ds → e'.get t = e.get t

theorem Step.trans {nt : Nat} {ds ds' ds'' : List Nat} {ρ ρ' ρ'' : Rho} {e e' e'' : Env} {H H' H'' : Heap} {a a' a'' : Act} {w w' w'' : World} (hR : R ρ H w)
    (h : Step nt ds ρ e H a w ρ' e' H' a' w') (k : Step nt ds' ρ' e' H' a' w' ρ'' e'' H'' a'' w'') (hd : ∀ t, t ∈ ds ∨ t ∈ ds' → t ∈ ds'') : Step nt ds'' ρ e H a w ρ'' e'' H'' a'' w'' :=
  ⟨k.rel, k.env, h.ext.trans k.ext hR.dom, k.size, k.defers.trans h.defers, fun t ht => by rw [k.agree t (fun hh => ht (hd t (.inr hh))), h.agree t (fun hh => ht (hd t (.inl hh)))]⟩

theorem Step.refl {nt : Nat} {ds : List Nat} (hR : R ρ H w) (he : EnvRel ρ e a) (hs : nt ≤ a.tmps.size) : Step nt ds ρ e H a w ρ e H a w :=
  ⟨hR, he, Ext.refl hR, hs, rfl, fun _ _ => rfl⟩

/-- One operation with its guard. -/
theorem op_goes (hCO : CallsOK P calls fids) {nt : Nat} {ops : Array Oper} {i : Nat} {o : Oper} {x : AOper} {its : List Item} (hi : ops[i]? = some o) (ok : aoperOK P fids nt ops x o = true)
    (hR : R ρ H w) (he : EnvRel ρ e a) (hs : nt ≤ a.tmps.size) (hev : evIts calls (.op x :: its) e H k = some r) {K : Act → World → Prop}
    (hn : ∀ e' H' ρ' a' w', evIts calls its e' H' k = some r → Step nt (Item.op x).dsts ρ e H a w ρ' e' H' a' w' → K a' w') : wpOp P ops Q i K a w := by
  simp only [aoperOK, Bool.and_eq_true, decide_eq_true_eq] at ok
  obtain ⟨⟨⟨o1, o2⟩, o3⟩, o4⟩ := ok
  have hds : ∀ t, t ∉ (Item.op x).dsts → x.dst ≠ some t := by
    intro t ht hh
    simp only [Item.dsts, hh] at ht
    exact ht (by simp)
  -- carried out
  have on : ∀ e1 : Env, EnvRel ρ e1 a → (∀ t, e1.get t = e.get t) → evOp calls x.op e1 H (fun v H' => evIts calls its (put e1 x.dst v) H' k) = some r → o.wp P a w K Q := by
    intro e1 he1 hg hev1
    refine evOp_goes hCO hR he1 o4 hev1 K Q ?_
    intro v v' H' ρ' w' hk hv hR' hx
    refine hn _ _ _ _ _ hk ⟨hR', ?_, hx, by rw [put_size]; exact hs, put_defers, fun t ht => by rw [put_get_other (hds t ht), hg]⟩
    rw [← o1]
    exact (he1.mono hx.le).put hv o2 hs
  -- left out
  have off : ∀ e1 : Env, EnvRel ρ e1 a → (∀ t, e1.get t = e.get t) → evIts calls its (put e1 x.dst .off) H k = some r → K (a.put o.dst undef) w := by
    intro e1 he1 hg hev1
    refine hn _ _ _ _ _ hev1 ⟨hR, ?_, Ext.refl hR, by rw [put_size]; exact hs, put_defers, fun t ht => by rw [put_get_other (hds t ht), hg]⟩
    rw [← o1]
    exact he1.put (v := .off) rfl o2 hs
  unfold wpOp
  simp only [hi]
  simp only [evIts] at hev
  split at hev
  · rename_i hg
    rw [hg] at o3
    rw [if_pos (wanted_none o3 _)]
    exact .inl (on e he (fun _ => rfl) hev)
  · rename_i t want hg
    rw [hg] at o3
    split at hev
    · rename_i g ht
      have hw := wanted_bool o3 he ht
      rw [hw]
      have hnar : ∀ s, Env.get ((t, .w (.one (.bool g))) :: e) s = e.get s := by
        intro s; rw [Env.get_cons]; split
        · rename_i hh; subst hh; exact ht.symm
        · rfl
      have hrel := he.narrow ht
      cases g <;> cases want <;> simp only [cond_true, cond_false] at hev
      · rw [if_pos (by decide)]; exact .inl (on _ hrel hnar hev)
      · rw [if_neg (by decide)]; exact off _ hrel hnar hev
      · rw [if_neg (by decide)]; exact off _ hrel hnar hev
      · rw [if_pos (by decide)]; exact .inl (on _ hrel hnar hev)
    · rename_i ht
      have hw := wanted_off o3 he ht
      rw [hw, if_neg (by decide)]
      exact off e he (fun _ => rfl) hev
    · cases hev

def seqOK (P : Program) (fids : Nat → Option FuncId) (nt : Nat) (ops : Array Oper) : List Item → List Oper → Bool
  | [], [] => true
  | .op x :: r, o :: s => aoperOK P fids nt ops x o && seqOK P fids nt ops r s
  | _, _ => false

theorem seq_goes (hCO : CallsOK P calls fids) {nt : Nat} {ops : Array Oper} : ∀ (its : List Item) (l : List Oper) (i : Nat) (ρ : Rho) (e : Env) (H : Heap) (a : Act) (w : World),
    ops.toList.drop i = l → seqOK P fids nt ops its l = true → R ρ H w → EnvRel ρ e a → nt ≤ a.tmps.size → evIts calls its e H k = some r →
    (∀ e' H' ρ' a' w', k e' H' = some r → Step nt (itsDsts its) ρ e H a w ρ' e' H' a' w' → Q .normal a' w') → wpOps P ops Q (List.range' i l.length) a w
  | [], [], i, ρ, e, H, a, w, _, _, hR, he, hs, hev, hn => by
    exact hn e H ρ a w hev (Step.refl hR he hs)
  | .op x :: its, o :: l, i, ρ, e, H, a, w, hl, ok, hR, he, hs, hev, hn => by
    simp only [seqOK, Bool.and_eq_true] at ok
    have hi : ops[i]? = some o := by
      rw [← Array.getElem?_toList, ← List.head?_drop, hl]; rfl
    rw [List.length_cons, List.range'_succ, wpOps_cons]
    refine op_goes hCO hi ok.1 hR he hs hev ?_
    intro e' H' ρ' a' w' hev' hst
    refine seq_goes hCO its l (i + 1) ρ' e' H' a' w' (by rw [← List.tail_drop, hl]; rfl) ok.2 hst.rel hst.env hst.size hev' ?_
    intro e'' H'' ρ'' a'' w'' hk hst'
    exact hn _ _ _ _ _ hk (hst.trans hR hst' (fun t ht => by simp only [itsDsts, List.mem_append]; exact ht))
  | [], _ :: _, _, _, _, _, _, _, _, ok, _, _, _, _, _ => by simp [seqOK] at ok
  | .op _ :: _, [], _, _, _, _, _, _, _, ok, _, _, _, _, _ => by simp [seqOK] at ok
  | .again _ :: _, _, _, _, _, _, _, _, _, ok, _, _, _, _, _ => by simp [seqOK] at ok
  | .still _ :: _, _, _, _, _, _, _, _, _, ok, _, _, _, _, _ => by simp [seqOK] at ok

end
end Ev
namespace Ev
open Go

def Ex.to : Ex → Exit
  | .normal => .normal
  | .ret => .ret
  | .exit id => .exit id

/-- Regions that draw: the checker, and what it promises. -/
def RegSound (P : Program) (calls : Nat → Option Callee) (nt : Nat) (its : List Item) (ops : Array Oper) : Prop :=
  ∀ {R0 : Type} {k : Env → Heap → Option R0} {r : R0} {ρ : Rho} {e : Env} {H : Heap} {a : Act} {w : World} {Q : Exit → Act → World → Prop} (id : Nat),
    R ρ H w → EnvRel ρ e a → nt ≤ a.tmps.size → evIts calls its e H k = some r →
    (∀ e' H' ρ' a' w', k e' H' = some r → Step nt (itsDsts its) ρ e H a w ρ' e' H' a' w' → Q .normal a' w') → (Code.region id ops true).wp P Q a w

theorem memB_iff (n : Nat) : ∀ l : List Nat, memB n l = true ↔ n ∈ l
  | [] => by simp [memB]
  | m :: r => by
    simp only [memB]
    have ih := memB_iff n r
    cases hb : Nat.beq n m with
    | true => have := Nat.eq_of_beq_eq_true hb; subst this; simp
    | false =>
      have hne : n ≠ m := fun h => by subst h; simp at hb
      simp [ih, hne]

theorem without_get (ds : List Nat) (t : Nat) : ∀ e : Env, (Env.without e ds).get t = if t ∈ ds then .und else e.get t
  | [] => by simp [Env.without, Env.get]
  | (s, v) :: r => by
    have ih := without_get ds t r
    simp only [Env.without]
    cases hb : memB s ds with
    | true =>
      have hs := (memB_iff s ds).1 hb
      simp only [cond_true, ih, Env.get_cons]
      split
      · rfl
      · rename_i ht
        rw [if_neg (fun h => ht (by rw [← h]; exact hs))]
    | false =>
      have hs : s ∉ ds := fun h => by rw [(memB_iff s ds).2 h] at hb; cases hb
      simp only [cond_false, Env.get_cons, ih]
      split
      · rename_i h; subst h; rw [if_neg hs]
      · rfl

theorem get_append (t : Nat) : ∀ (x y : Env), (x ++ y).get t = (if t ∈ x.map Prod.fst then x.get t else y.get t)
  | [], y => by simp
  | (s, v) :: x, y => by
    rw [List.cons_append, Env.get_cons, get_append t x y, Env.get_cons]
    by_cases h : s = t
    · subst h; simp
    · have : t ≠ s := fun hh => h hh.symm
      have hm : (t ∈ List.map Prod.fst ((s, v) :: x)) ↔ t ∈ List.map Prod.fst x := by rw [List.map_cons, List.mem_cons]; exact ⟨fun hh => hh.resolve_left this, .inr⟩
      simp only [hm, if_neg h]

/-- What typed joins keep: each slot's own value. -/
theorem dec_get : ∀ {o : Outs} {e : Env} {x : OT o}, OT.enc o e = some x → ∀ t, t ∈ (OT.dec o x).map Prod.fst → (OT.dec o x).get t = e.get t
  | [], e, x, _, t, ht => by simp [OT.dec] at ht
  | (s, ty) :: o, e, x, h, t, ht => by
    simp only [OT.enc] at h
    split at h
    · rename_i y hy
      obtain ⟨p, h1, h2⟩ := Option.bind_some_inv h
      obtain ⟨q, h3, h4⟩ := Option.bind_some_inv h2
      cases h4
      simp only [OT.dec] at ht ⊢
      rw [Env.get_cons]
      split
      · rename_i hs; subst hs; rw [hy, Ty.un_mk h1]
      · rename_i hs
        rw [List.map_cons, List.mem_cons] at ht
        exact dec_get h3 t (ht.resolve_left (fun hh => hs hh.symm))
    · cases h

theorem dec_keys : ∀ {o : Outs} {x : OT o}, (OT.dec o x).map Prod.fst = o.map Prod.fst
  | [], _ => rfl
  | (s, t) :: o, x => by simp only [OT.dec, List.map_cons]; rw [dec_keys]

theorem XV.enc_dec {R0 : Type} : ∀ {xs : List (Ex × Outs)} {ex : Ex} {e : Env} {x : XV xs} {k : Ex → Env → Option R0} {r : R0}, XV.enc xs ex e = some x → XV.dec xs x k = some r →
    ∃ (o : Outs) (y : OT o), (ex, o) ∈ xs ∧ OT.enc o e = some y ∧ k ex (OT.dec o y) = some r
  | [], _, _, _, _, _, h, _ => by cases h
  | [o], ex, e, x, k, r, h, hd => by
    simp only [XV.enc] at h
    obtain ⟨h1, h2⟩ := cond_some_inv h
    have h1 := of_decide_eq_true h1
    subst h1
    exact ⟨o.2, x, by simp, h2, hd⟩
  | o :: p :: rest, ex, e, x, k, r, h, hd => by
    simp only [XV.enc] at h
    cases hb : decide (o.1 = ex) with
    | true =>
      rw [hb] at h
      have h1 := of_decide_eq_true hb
      obtain ⟨y, h2, h3⟩ := Option.bind_some_inv h
      cases h3
      subst h1
      exact ⟨o.2, y, by simp, h2, hd⟩
    | false =>
      rw [hb] at h
      obtain ⟨y, h2, h3⟩ := Option.bind_some_inv h
      cases h3
      obtain ⟨o', y', m1, m2, m3⟩ := XV.enc_dec h2 hd
      exact ⟨o', y', List.mem_cons_of_mem _ m1, m2, m3⟩

/-! ### Ranges over maps -/
def keyI : Value → Int
  | .int _ n => n
  | _ => 0
theorem EsRel.keys {ρ : Rho} : ∀ {es : MEs} {l : List MapEntry}, EsRel ρ es l → es.map Prod.fst = l.map fun e => keyI e.key
  | [], [], _ => rfl
  | x :: es, e :: l, ⟨⟨a, _⟩, r⟩ => by rw [List.map_cons, List.map_cons, EsRel.keys r, a]; rfl
  | [], _ :: _, r => r.elim
  | _ :: _, [], r => r.elim
theorem runK_append {S : Type} {step : Int → S → Heap → Option (S × Heap)} {m : Option Nat} {hd : Nat × Nat} : ∀ (l1 l2 : List Int) (s : S) (H : Heap),
    runK step m hd (l1 ++ l2) s H = (runK step m hd l1 s H).bind fun p => runK step m hd l2 p.1 p.2
  | [], _, _, _ => rfl
  | k :: l1, l2, s, H => by
    rw [List.cons_append]
    simp only [runK]
    cases step k s H with
    | none => rfl
    | some p =>
      show (if mhead p.2 m = some hd then _ else none) = ((if mhead p.2 m = some hd then _ else none) : Option (S × Heap)).bind _
      by_cases h : mhead p.2 m = some hd
      · rw [if_pos h, if_pos h, runK_append l1 l2]
      · rw [if_neg h, if_neg h]; rfl
theorem eachW_some {S : Type} {step : Int → S → Heap → Option (S × Heap)} {m : Option Nat} {s : S} {H : Heap} {p : S × Heap} (h : eachW step m s H = some p) :
    ∃ ks hd, mkeys H m = some ks ∧ mhead H m = some hd ∧ ∀ l : List Int, l.Perm ks → ∃ q, runK step m hd l s H = some q ∧ q.1 = p.1 ∧ Alike H q.2 p.2 := by
  unfold eachW at h
  obtain ⟨ks, h1, h2⟩ := Option.bind_some_inv h
  obtain ⟨hd, h3, h4⟩ := Option.bind_some_inv h2
  split at h4
  · rename_i hc
    obtain ⟨q, h5, h6⟩ := hc
    rw [h5] at h4; cases h4
    exact ⟨ks, hd, h1, h3, h6⟩
  · cases h4

def CT.flat : CT → Bool
  | .int _ | .bool | .str => true
  | _ => false
def Ty.flat : Ty → Bool
  | .one c => c.flat
  | .agg cs => cs.all CT.flat
theorem CT.flat_rel {ρ ρ' : Rho} {t : CT} (h : t.flat = true) {x : t.T} {v : Value} (r : CRel ρ (t.mk x) v) : CRel ρ' (t.mk x) v := by
  cases t <;> simp only [CT.flat] at h <;> first | exact r | contradiction
theorem Tup.flat_rel {ρ ρ' : Rho} : ∀ {ts : List CT}, ts.all CT.flat = true → ∀ {x : Tup ts} {vs : List Value}, CsRel ρ (Tup.mk ts x) vs → CsRel ρ' (Tup.mk ts x) vs
  | [], _, _, [], _ => trivial
  | t :: ts, h, x, v :: vs, r => by
    simp only [List.all_cons, Bool.and_eq_true] at h
    exact ⟨CT.flat_rel h.1 r.1, Tup.flat_rel h.2 r.2⟩
  | [], _, _, _ :: _, r => r.elim
  | _ :: _, _, _, [], r => r.elim
theorem Ty.flat_rel {ρ ρ' : Rho} {t : Ty} (h : t.flat = true) {x : t.T} {v : Value} (r : WRel ρ (t.mk x) v) : WRel ρ' (t.mk x) v := by
  cases t with
  | one c => exact CT.flat_rel (t := c) h r
  | agg cs => obtain ⟨vs, h1, h2⟩ := r; exact ⟨vs, h1, Tup.flat_rel h h2⟩
theorem dec_flat {ρ ρ' : Rho} : ∀ {o : Outs} {x : OT o} {t : Nat} {v : Value}, (o.all fun p => p.2.flat) = true → t ∈ (OT.dec o x).map Prod.fst → VRel ρ ((OT.dec o x).get t) v → VRel ρ' ((OT.dec o x).get t) v
  | [], _, _, _, _, h, _ => by simp [OT.dec] at h
  | (s, ty) :: o, x, t, v, hf, h, r => by
    simp only [List.all_cons, Bool.and_eq_true] at hf
    simp only [OT.dec, Env.get_cons] at r ⊢
    split
    · rename_i e; rw [if_pos e] at r; exact Ty.flat_rel hf.1 r
    · rename_i e
      rw [if_neg e] at r
      simp only [OT.dec, List.map_cons, List.mem_cons] at h
      exact dec_flat hf.2 (h.resolve_left fun hh => e hh.symm) r

section
variable (P : Program) (nt : Nat)
def rangeOK (m : Opd) (it : Nat) (o : Oper) : Bool := decide (o.dst = some it) && o.guard.isNone && Nat.blt it nt && (match o.op with
  | .range t y => opdOK m y && (mapElem P t).isSome
  | _ => false)
def nextOK (it nx ok : Nat) : List Oper → Bool
  | [n, x] => decide (n.dst = some nx) && n.guard.isNone && Nat.blt nx nt && decide (x.dst = some ok) && x.guard.isNone && Nat.blt ok nt &&
      (match n.op with
      | .next (.tmp t) false => decide (t = it)
      | _ => false) && (match x.op with
      | .extract (.tmp t) 0 => decide (t = nx)
      | _ => false)
  | _ => false
def entOK (it ent : Nat) (o : Oper) : Bool := decide (o.dst = some ent) && o.guard.isNone && Nat.blt ent nt && (match o.op with
  | .entry (.tmp t) => decide (t = it)
  | _ => false)
variable (fids : Nat → Option FuncId)
def eachOK (its : List Item) (m : Opd) (it nx ok ent : Nat) (st : Outs) (b : List Item) (ds : List Nat) (body : Code → Bool) : Code → Bool
  | .seq (.region _ ops false) (.block i (.loop (.seq (.region _ ops2 false) (.seq (.cond (.tmp x) .skip (.exit j)) (.block _ (.seq (.region _ ops3 false) c)))))) =>
    decide (i = j) && decide (x = ok) && (match ops.toList.reverse, ops3.toList with
      | rg :: l, en :: l3 => rangeOK P nt m it rg && seqOK P fids nt ops its l.reverse && entOK nt it ent en && seqOK P fids nt ops3 b l3
      | _, _ => false) && nextOK nt it nx ok ops2.toList && body c && !memB it (nx :: ok :: ent :: (itsDsts b ++ ds)) && (st.all fun p => p.2.flat && !memB p.1 [it, nx, ok]) && decide (nx ≠ ok)
  | _ => false
end

section
variable {P : Program} {nt : Nat} {calls : Nat → Option Callee} {fids : Nat → Option FuncId}
theorem eachOK_inv {its : List Item} {m : Opd} {it nx ok ent : Nat} {st : Outs} {b : List Item} {ds : List Nat} {body : Code → Bool} {c : Code} (h : eachOK P nt fids its m it nx ok ent st b ds body c = true) :
    ∃ (i1 i2 i3 i l : Nat) (ops ops2 ops3 : Array Oper) (lo lo3 : List Oper) (rg en : Oper) (c' : Code), c = .seq (.region i1 ops false) (.block i (.loop (.seq (.region i2 ops2 false) (.seq (.cond (.tmp ok) .skip (.exit i)) (.block l (.seq (.region i3 ops3 false) c')))))) ∧
      ops.toList = lo ++ [rg] ∧ ops3.toList = en :: lo3 ∧ rangeOK P nt m it rg = true ∧ seqOK P fids nt ops its lo = true ∧ entOK nt it ent en = true ∧ seqOK P fids nt ops3 b lo3 = true ∧ nextOK nt it nx ok ops2.toList = true ∧ body c' = true ∧
      it ∉ (nx :: ok :: ent :: (itsDsts b ++ ds)) ∧ (st.all fun p => p.2.flat) = true ∧ (∀ p ∈ st, p.1 ∉ [it, nx, ok]) ∧ nx ≠ ok := by
  unfold eachOK at h
  split at h
  · rename_i i1 ops i i2 ops2 x j l i3 ops3 c'
    simp only [Bool.and_eq_true, decide_eq_true_eq] at h
    obtain ⟨⟨⟨⟨⟨⟨⟨rfl, rfl⟩, h3⟩, h4⟩, h5⟩, h6⟩, h7⟩, h8⟩ := h
    split at h3
    · rename_i rg lr en l3 e1 e2
      simp only [Bool.and_eq_true] at h3
      obtain ⟨⟨⟨g1, g2⟩, g3⟩, g4⟩ := h3
      refine ⟨i1, i2, i3, i, l, ops, ops2, ops3, lr.reverse, l3, rg, en, c', rfl, ?_, e2, g1, g2, g3, g4, h4, h5, ?_, ?_, ?_, h8⟩
      · have := congrArg List.reverse e1
        rwa [List.reverse_reverse, List.reverse_cons] at this
      · intro hm
        rw [(memB_iff _ _).2 hm] at h6; cases h6
      · rw [List.all_eq_true] at h7 ⊢
        intro p hp
        have := h7 p hp
        simp only [Bool.and_eq_true] at this
        exact this.1
      · rw [List.all_eq_true] at h7
        intro p hp e
        have := h7 p hp
        simp only [Bool.and_eq_true] at this
        rw [(memB_iff _ _).2 e] at this
        exact absurd this.2 (by simp)
    · cases h3
  · cases h

/-- So many of a region's operations, and then the others. -/
theorem seq_goes' (hCO : CallsOK P calls fids) {ops : Array Oper} {Q : Exit → Act → World → Prop} {R0 : Type} {k : Env → Heap → Option R0} {r : R0} {rest : List Nat} : ∀ (its : List Item) (l : List Oper) (i : Nat) (ρ : Rho) (e : Env) (H : Heap) (a : Act) (w : World),
    (∀ j (h : j < l.length), ops[i + j]? = some l[j]) → seqOK P fids nt ops its l = true → R ρ H w → EnvRel ρ e a → nt ≤ a.tmps.size → evIts calls its e H k = some r →
    (∀ e' H' ρ' a' w', k e' H' = some r → Step nt (itsDsts its) ρ e H a w ρ' e' H' a' w' → wpOps P ops Q rest a' w') → wpOps P ops Q (List.range' i l.length ++ rest) a w
  | [], [], i, ρ, e, H, a, w, _, _, hR, he, hs, hev, hn => by
    exact hn e H ρ a w hev (Step.refl hR he hs)
  | .op x :: its, o :: l, i, ρ, e, H, a, w, hl, ok, hR, he, hs, hev, hn => by
    simp only [seqOK, Bool.and_eq_true] at ok
    have hi : ops[i]? = some o := by have := hl 0 (by simp); simpa using this
    rw [List.length_cons, List.range'_succ, List.cons_append, wpOps_cons]
    refine op_goes hCO hi ok.1 hR he hs hev ?_
    intro e' H' ρ' a' w' hev' hst
    refine seq_goes' hCO its l (i + 1) ρ' e' H' a' w' (fun j hj => ?_) ok.2 hst.rel hst.env hst.size hev' ?_
    · have := hl (j + 1) (by simp; omega)
      rw [show i + 1 + j = i + (j + 1) by omega, this]; rfl
    · intro e'' H'' ρ'' a'' w'' hk hst'
      exact hn _ _ _ _ _ hk (hst.trans hR hst' (fun t ht => by simp only [itsDsts, List.mem_append]; exact ht))
  | [], _ :: _, _, _, _, _, _, _, _, ok, _, _, _, _, _ => by simp [seqOK] at ok
  | .op _ :: _, [], _, _, _, _, _, _, _, ok, _, _, _, _, _ => by simp [seqOK] at ok
  | .again _ :: _, _, _, _, _, _, _, _, _, ok, _, _, _, _, _ => by simp [seqOK] at ok
  | .still _ :: _, _, _, _, _, _, _, _, _, ok, _, _, _, _, _ => by simp [seqOK] at ok

theorem wanted_free {ops : Array Oper} {o : Oper} (h : o.guard.isNone = true) (tm : Array Value) : Region.wanted o (yielded ops tm) = true := by
  cases hg : o.guard with
  | none => simp [Region.wanted, hg]
  | some g => rw [hg] at h; cases h
theorem wpOps_one {ops : Array Oper} {Q : Exit → Act → World → Prop} {i : Nat} {o : Oper} {rest : List Nat} {a : Act} {w : World} (hi : ops[i]? = some o) (hg : o.guard.isNone = true) (h : o.wp P a w (wpOps P ops Q rest) Q) : wpOps P ops Q (i :: rest) a w := by
  rw [wpOps_cons]
  unfold wpOp
  simp only [hi]
  rw [if_pos (wanted_free hg _)]
  exact .inl h

/-- The head of a round. -/
theorem each_head {Q : Exit → Act → World → Prop} {it nx ok i i2 : Nat} {ops2 : Array Oper} {c : Code} {a : Act} {w w' : World} {vs : List Value} {bv : Bool} (hok : nextOK nt it nx ok ops2.toList = true) (hne : nx ≠ ok)
    (hr : ∀ ty, (Instr.next (a.tmps.getD it undef) false ty).run P w = .ok (.tuple vs.toArray) w') (hv : vs[0]? = some (.bool bv)) (hs : nt ≤ a.tmps.size)
    (hq : ∀ a', (∀ t, t ≠ nx → t ≠ ok → a'.tmps.getD t undef = a.tmps.getD t undef) → nt ≤ a'.tmps.size → a'.defers = a.defers → if bv then c.wp P Q a' w' else Q (.exit i) a' w') :
    (Code.seq (.region i2 ops2 false) (.seq (.cond (.tmp ok) .skip (.exit i)) c)).wp P Q a w := by
  unfold nextOK at hok
  split at hok
  · rename_i n x hops
    simp only [Bool.and_eq_true, decide_eq_true_eq] at hok
    obtain ⟨⟨⟨⟨⟨⟨⟨o1, o2⟩, o3⟩, o4⟩, o5⟩, o6⟩, o7⟩, o8⟩ := hok
    have h0 : ops2[0]? = some n := by rw [← Array.getElem?_toList, hops]; rfl
    have h1 : ops2[1]? = some x := by rw [← Array.getElem?_toList, hops]; rfl
    have hsz : ops2.size = 2 := by rw [← Array.length_toList, hops]; rfl
    split at o7
    · rename_i t hn
      have o7 := of_decide_eq_true o7
      subst o7
      split at o8
      · rename_i t' hx
        have o8 := of_decide_eq_true o8
        subst o8
        have l3 : t' < nt := by simpa [Nat.blt_eq] using o3
        have l6 : ok < nt := by simpa [Nat.blt_eq] using o6
        refine wp_seq (wp_region ?_)
        rw [hsz, show List.range 2 = [0, 1] from rfl]
        refine wpOps_one h0 o2 (wp_sem (s := Instr.next (a.tmps.getD t undef) false n.type) (by simp [execOp, hn, Act.eval]) (hr _) ?_)
        rw [o1]
        have ha1 : (a.put (some t') (.tuple vs.toArray)).tmps.getD t' undef = .tuple vs.toArray := getD_put_same (Nat.lt_of_lt_of_le l3 hs)
        refine wpOps_one h1 o5 (wp_sem (s := Instr.extract ((a.put (some t') (.tuple vs.toArray)).tmps.getD t' undef) 0) (v := .bool bv) (w' := w') (by simp [execOp, hx, Act.eval]) (by rw [ha1]; simp [Instr.extract, hv]) ?_)
        rw [o4]
        have hA := hq ((a.put (some t') (.tuple vs.toArray)).put (some ok) (.bool bv)) (fun s h1 h2 => by rw [getD_put_other (by simp [Ne.symm h2]), getD_put_other (by simp [Ne.symm h1])]) (by rw [put_size, put_size]; exact hs) (by rw [put_defers, put_defers])
        have hb : ((a.put (some t') (.tuple vs.toArray)).put (some ok) (.bool bv)).eval (.tmp ok) = .bool bv := getD_put_same (by rw [put_size]; exact Nat.lt_of_lt_of_le l6 hs)
        refine wp_seq (wp_cond hb ?_)
        cases bv with
        | true => exact wp_skip hA
        | false => exact wp_exit hA
      · cases o8
    · cases o7
  · cases hok
end

section
variable (P : Program) (fids : Nat → Option FuncId) (nt : Nat) (drawOK : List Item → Array Oper → Bool)

def codeOK : A → Code → Bool
  | .scope _ a, c => codeOK a c
  | .skip, .skip => true
  | .ret, .ret => true
  | .exit i, .exit j => decide (i = j)
  | .seq a b, .seq c d => codeOK a c && codeOK b d
  | .cond x a b, .cond y c d => opdOK x y && codeOK a c && codeOK b d
  | .block i a, .block j c => decide (i = j) && codeOK a c
  | .loop _ _ a, .loop c => codeOK a c
  | .each its m it nx ok ent _ st b a, c => eachOK P nt fids its m it nx ok ent st b a.dsts (codeOK a) c
  | .reg its, .region _ ops draw => bif draw then drawOK its ops else seqOK P fids nt ops its ops.toList
  | _, _ => false
end

section
variable {P : Program} {nt : Nat} {calls : Nat → Option Callee} {fids : Nat → Option FuncId} {drawOK : List Item → Array Oper → Bool}

/-- After a join: what lives. -/
theorem join_rel {ρ' : Rho} {e e' : Env} {a' : Act} {ds : List Nat} {o : Outs} {y : OT o} (he' : EnvRel ρ' e' a') (hy : OT.enc o e' = some y) (ha : ∀ t, t ∉ ds → e'.get t = e.get t) :
    EnvRel ρ' (OT.dec o y ++ e.without ds) a' := by
  intro t
  rw [get_append]
  split
  · rename_i ht; rw [dec_get hy t ht]; exact he' t
  · rw [without_get]
    split
    · trivial
    · rename_i ht; rw [← ha t ht]; exact he' t

theorem join_agree {e e' : Env} {ds : List Nat} {o : Outs} {y : OT o} (hy : OT.enc o e' = some y) (ha : ∀ t, t ∉ ds → e'.get t = e.get t) (t : Nat) (ht : t ∉ ds) :
    (OT.dec o y ++ e.without ds).get t = e.get t := by
  rw [get_append]
  split
  · rename_i h; rw [dec_get hy t h]; exact ha t ht
  · rw [without_get, if_neg ht]

theorem loopW_some {S X : Type} {step : S → Heap → Option ((S ⊕ X) × Heap)} {s : S} {H : Heap} {r : X × Heap} (h : loopW step s H = some r) : ∃ n, iter step n s H = some r := by
  unfold loopW at h
  split at h
  · rename_i hex
    cases h
    exact Classical.choose_spec hex
  · cases h

theorem left_other (seen : Array Nat) (bn : Nat) : ∀ KB : List (Int × Nat), bn ∉ KB.map Prod.snd → (KB.filter fun p => !(seen.push bn).contains p.2) = KB.filter fun p => !seen.contains p.2
  | [], _ => rfl
  | p :: KB, h => by
    have h1 : (p.2 == bn) = false := by
      cases hc : p.2 == bn with
      | false => rfl
      | true => exact absurd (List.mem_cons.2 (.inl (beq_iff_eq.1 hc).symm)) h
    have ih := left_other seen bn KB (fun e => h (List.mem_cons.2 (.inr e)))
    rw [List.filter_cons, List.filter_cons, ih, contains_push, h1, Bool.or_false]
theorem left_perm (seen : Array Nat) (n : Int) (bn : Nat) (hs : seen.contains bn = false) : ∀ KB : List (Int × Nat), (KB.map Prod.snd).Nodup → (n, bn) ∈ KB → (KB.filter fun p => !seen.contains p.2).Perm ((n, bn) :: KB.filter fun p => !(seen.push bn).contains p.2)
  | p :: KB, hn, hm => by
    rw [List.map_cons, List.nodup_cons] at hn
    by_cases e : p.2 = bn
    · have hp : p = (n, bn) := by
        rcases List.mem_cons.1 hm with h | h
        · exact h.symm
        · exact absurd (List.mem_map.2 ⟨_, h, rfl⟩) (by rw [e] at hn; exact hn.1)
      subst hp
      rw [List.filter_cons, List.filter_cons, left_other seen bn KB hn.1, contains_push]
      simp only [hs, beq_self_eq_true, Bool.or_true, Bool.not_false, Bool.not_true, if_true, Bool.false_eq_true, if_false]
      exact List.Perm.refl _
    · have hm' : (n, bn) ∈ KB := by
        rcases List.mem_cons.1 hm with h | h
        · rw [← h] at e; exact absurd rfl e
        · exact h
      have ih := left_perm seen n bn hs KB hn.2 hm'
      have h1 : (p.2 == bn) = false := by simpa using e
      rw [List.filter_cons, List.filter_cons, contains_push, h1, Bool.or_false]
      cases seen.contains p.2 with
      | true => exact ih
      | false => exact (List.Perm.cons p ih).trans (List.Perm.swap _ _ _)
theorem left_list (ents : Array MapEntry) (seen : Array Nat) : (leftOf ents seen).toList.map (fun e => (keyI e.key, e.born)) = (ents.toList.map fun e => (keyI e.key, e.born)).filter fun p => !seen.contains p.2 := by
  unfold leftOf
  rw [Array.toList_filter, List.filter_map]
  rfl
theorem mfind_mem : ∀ {es : MEs} {x : Int × W}, es.Pairwise (fun x y => x.1 < y.1) → x ∈ es → mfind es x.1 = some x.2
  | y :: es, x, h, hm => by
    rcases List.mem_cons.1 hm with rfl | hm
    · simp [mfind]
    · have := List.rel_of_pairwise_cons h hm
      simp only [mfind]
      rw [decide_eq_false (by omega), cond_false]
      exact mfind_mem (List.Pairwise.of_cons h) hm

theorem enc_other {v : V} {s : Nat} {e : Env} : ∀ {o : Outs}, (∀ p ∈ o, p.1 ≠ s) → OT.enc o ((s, v) :: e) = OT.enc o e
  | [], _ => rfl
  | (t, ty) :: o, h => by
    have h1 : s ≠ t := fun hh => h (t, ty) (by simp) hh.symm
    have ih : OT.enc o ((s, v) :: e) = OT.enc o e := enc_other fun p hp => h p (List.mem_cons_of_mem _ hp)
    simp only [OT.enc, Env.get_cons, if_neg h1, ih]
set_option maxHeartbeats 4000000 in
/-- A range over a map, in whatever order. -/
theorem each_goes (hCO : CallsOK P calls fids) {its : List Item} {m : Opd} {it nx ok ent : Nat} {ty : Ty} {st : Outs} {b : List Item} {x : A} {body : Code → Bool}
    (ih : ∀ c, body c = true → ∀ {R0 : Type} (k : Ex → Env → Heap → Option R0) (r : R0) (ρ : Rho) (e : Env) (H : Heap) (a : Act) (w : World) (Q : Exit → Act → World → Prop),
      evS calls x e H k = some r → R ρ H w → EnvRel ρ e a → nt ≤ a.tmps.size → (∀ ex e' H' ρ' a' w', k ex e' H' = some r → Step nt x.dsts ρ e H a w ρ' e' H' a' w' → Q ex.to a' w') → c.wp P Q a w)
    {c : Code} (okc : eachOK P nt fids its m it nx ok ent st b x.dsts body c = true)
    {R0 : Type} (k : Ex → Env → Heap → Option R0) (r : R0) (ρ : Rho) (e : Env) (H : Heap) (a : Act) (w : World) (Q : Exit → Act → World → Prop)
    (hev : evS calls (.each its m it nx ok ent ty st b x) e H k = some r) (hR : R ρ H w) (he : EnvRel ρ e a) (hs : nt ≤ a.tmps.size)
    (hn : ∀ ex e' H' ρ' a' w', k ex e' H' = some r → Step nt (A.each its m it nx ok ent ty st b x).dsts ρ e H a w ρ' e' H' a' w' → Q ex.to a' w') : c.wp P Q a w := by
  obtain ⟨i1, i2, i3, i, l, ops, ops2, ops3, lo, lo3, rg, en, c', rfl, hops, hops3, okr, oki, oke, okb, okn, okc', hit, hflat, hstit, hnxok⟩ := eachOK_inv okc
  simp only [evS] at hev
  have hlen : ops.size = lo.length + 1 := by rw [← Array.length_toList, hops]; simp
  have hlen3 : ops3.size = lo3.length + 1 := by rw [← Array.length_toList, hops3]; simp
  have hlo : ∀ j (h : j < lo.length), ops[0 + j]? = some lo[j] := fun j h => by rw [← Array.getElem?_toList, hops, Nat.zero_add, List.getElem?_append_left h, List.getElem?_eq_getElem h]
  have hrg : ops[lo.length]? = some rg := by rw [← Array.getElem?_toList, hops]; simp
  have hen : ops3[0]? = some en := by rw [← Array.getElem?_toList, hops3]; rfl
  have hlo3 : ∀ j (h : j < lo3.length), ops3[1 + j]? = some lo3[j] := fun j h => by rw [← Array.getElem?_toList, hops3, Nat.add_comm, List.getElem?_cons_succ, List.getElem?_eq_getElem h]
  have hrange : List.range ops.size = List.range' 0 lo.length ++ [lo.length] := by rw [hlen, List.range_succ, List.range_eq_range']
  have hrange3 : List.range ops3.size = 0 :: (List.range' 1 lo3.length ++ []) := by rw [hlen3, List.range_eq_range', List.append_nil]; rfl
  refine wp_seq (wp_region ?_)
  rw [hrange]
  refine seq_goes' hCO its lo 0 ρ e H a w hlo oki hR he hs hev ?_
  intro e1 H1 ρ1 a1 w1 hev1 hst1
  have hmm : ∃ mm, m.ev e1 = .w (.one (.mp mm)) := by
    split at hev1
    · rename_i mm h; exact ⟨mm, h⟩
    · cases hev1
  obtain ⟨mm, hmm⟩ := hmm
  rw [hmm] at hev1
  simp only at hev1
  obtain ⟨s0, hs0, hev2⟩ := Option.bind_some_inv hev1
  obtain ⟨p, hp, hk⟩ := Option.bind_some_inv hev2
  clear hev1 hev2
  obtain ⟨ks, hd, hks, hhd, hall⟩ := eachW_some hp
  obtain ⟨step, hstep⟩ : ∃ f : Int → OT st → Heap → Option (OT st × Heap), f = fun key s H => (mat H ty mm key).bind fun v =>
        evIts calls b ((ent, .tup [.one (.int .i64 key), ty.mk v]) :: (it, .w (.one (.ptr (some (H1.length, 0))))) :: (OT.dec st s ++ e1.without (it :: nx :: ok :: ent :: (itsDsts b ++ x.dsts)))) H fun e2 H2 =>
        evS calls x e2 H2 (encN st) := ⟨_, rfl⟩
  rw [← hstep] at hall
  clear hp
  -- the range
  unfold rangeOK at okr
  simp only [Bool.and_eq_true, decide_eq_true_eq] at okr
  obtain ⟨⟨⟨r1, r2⟩, r3⟩, r4⟩ := okr
  have l3 : it < nt := by simpa [Nat.blt_eq] using r3
  have hrgop : ∃ t y, rg.op = .range t y ∧ opdOK m y = true ∧ (mapElem P t).isSome = true := by
    split at r4
    · rename_i t y h
      simp only [Bool.and_eq_true] at r4
      exact ⟨t, y, h, r4.1, r4.2⟩
    · cases r4
  obtain ⟨t, y, hrgop, o1, o2⟩ := hrgop
  obtain ⟨et, het⟩ := Option.isSome_iff_exists.1 o2
  obtain ⟨kt, u1, u2⟩ := mapElem_inv het
  have hm1 := opd_rel hst1.env o1
  rw [hmm] at hm1
  have hbase : ∃ (mb : Option Nat) (since : Nat) (KB : List (Int × Nat)), (Instr.range t (a1.eval y)).run P w1 = .ok (.pointer (some ⟨w1.heap.size, 0, none⟩)) (w1.alloc (.mapIter mb since #[] since)) ∧
      (KB.map Prod.fst).Perm ks ∧ ((mm = none ∧ mb = none ∧ KB = []) ∨ ∃ bb pl es ents, mm = some bb ∧ mb = some pl.k ∧ ρ1 bb = some pl ∧ H1[bb]? = some (.mp es hd.2) ∧ es.length = hd.1 ∧
        w1.heap[pl.k]? = some (.map ents since) ∧ ents.toList.map (fun e => (keyI e.key, e.born)) = KB) := by
    cases mm with
    | none =>
      have hv : a1.eval y = .map none := hm1
      cases hks
      refine ⟨none, 0, [], ?_, List.Perm.refl _, .inl ⟨rfl, rfl, rfl⟩⟩
      simp [Instr.range, Sem.run_bind, run_underlying u1, Result.andThen, hv, newObj, Sem.run]
    | some bb =>
      obtain ⟨pl, g1, g2⟩ := (hm1 : CRel ρ1 (.mp (some bb)) _)
      obtain ⟨q, hq, hq2⟩ := Option.bind_some_inv (show ((H1 ++ [Blk.dead]).mpAt bb).bind (fun p => some (p.1.map Prod.fst)) = some ks from hks)
      cases hq2
      have hhd' : ((H1 ++ [Blk.dead]).mpAt bb).bind (fun p => some (p.1.length, p.2)) = some hd := hhd
      rw [hq] at hhd'
      cases hhd'
      have hb0 := mpAt_some hq
      rw [List.getElem?_append_left (hst1.rel.dom _ _ g1)] at hb0
      obtain ⟨ents, l0, ck, c1, c2, c3, c4, c5⟩ := (hst1.rel.mp bb pl q.1 q.2 g1 hb0).ex
      refine ⟨some pl.k, ck, ents.toList.map (fun e => (keyI e.key, e.born)), ?_, ?_, .inr ⟨bb, pl, q.1, ents, rfl, rfl, g1, hb0, rfl, c1, rfl⟩⟩
      · simp [Instr.range, Sem.run_bind, run_underlying u1, Result.andThen, g2, MapKept.run_getObj_map c1, newObj, Sem.run]
      · rw [List.map_map, c3.keys]
        exact c2.map _
  obtain ⟨mb, since, KB, hrun, hKB, hcase⟩ := hbase
  refine wpOps_one hrg r2 (wp_sem (s := Instr.range t (a1.eval y)) (by simp [execOp, hrgop]) hrun ?_)
  rw [r1]
  show (Code.block i _).wp P Q _ _
  obtain ⟨K, hK⟩ : ∃ K, K = w1.heap.size := ⟨_, rfl⟩
  rw [← hK]
  obtain ⟨r0, x0⟩ := hst1.rel.newDead (.mapIter mb since #[] since)
  obtain ⟨ρ0, hρ0⟩ : ∃ q, q = ρ1.set H1.length ⟨w1.heap.size, 0, 0, 0, false⟩ := ⟨_, rfl⟩
  rw [← hρ0] at r0 x0
  have hρK : ρ0 H1.length = some ⟨K, 0, 0, 0, false⟩ := by rw [hρ0, hK]; exact Rho.set_same _ _ _
  obtain ⟨D, hD⟩ : ∃ D, D = nx :: ok :: ent :: (itsDsts b ++ x.dsts) := ⟨_, rfl⟩
  rw [← hD] at hit hk hstep
  have hitnx : it ≠ nx := fun h => hit (by rw [hD, h]; simp)
  have hitok : it ≠ ok := fun h => hit (by rw [hD, h]; simp)
  have hitent : it ≠ ent := fun h => hit (by rw [hD, h]; simp)
  refine wp_block (wp_loop_rounds (KB.length + 1) ?_)
  have key : ∀ (n : Nat) (kv : List Int) (seen : Array Nat) (s : OT st) (Hc : Heap) (ρc : Rho) (ec : Env) (ac : Act) (wc : World),
      (KB.filter fun p => !seen.contains p.2).length < n → Step nt (it :: D) ρ1 e1 H1 a1 w1 ρc ec Hc ac wc → ρ0.le ρc → (∀ b pl, ρc b = some pl → ρ0 b = none → H1.length + 1 ≤ b) →
      ec.get it = .w (.one (.ptr (some (H1.length, 0)))) → wc.heap[K]? = some (.mapIter mb since seen since) → runK step mm hd kv s0 (H1 ++ [.dead]) = some (s, Hc) → OT.enc st ec = some s →
      (kv ++ (KB.filter fun p => !seen.contains p.2).map Prod.fst).Perm ks →
      ((mm = none ∧ mb = none ∧ KB = []) ∨ ∃ bb pl es ents, mm = some bb ∧ mb = some pl.k ∧ ρ1 bb = some pl ∧ Hc[bb]? = some (.mp es hd.2) ∧ es.length = hd.1 ∧
        wc.heap[pl.k]? = some (.map ents since) ∧ ents.toList.map (fun e => (keyI e.key, e.born)) = KB) →
      Code.rounds P (.seq (.region i2 ops2 false) (.seq (.cond (.tmp ok) .skip (.exit i)) (.block l (.seq (.region i3 ops3 false) c')))) (Exit.inBlock i Q) n ac wc := by
    intro n
    induction n with
    | zero => intro _ _ _ _ _ _ _ _ h; exact absurd h (Nat.not_lt_zero _)
    | succ n ihn =>
      intro kv seen s Hc ρc ec ac wc hmu j1 j2 j3 j4 j5 j6 j7 j8 j9
      rw [rounds_succ]
      have hptr : ac.tmps.getD it undef = .pointer (some ⟨K, 0, none⟩) := by
        have := j1.env it
        rw [j4] at this
        obtain ⟨pl, g1, g2⟩ := (this : CRel ρc (.ptr (some (H1.length, 0))) _)
        rw [j2 _ _ hρK] at g1
        cases g1
        exact g2
      -- nothing is left
      have fin : (KB.filter fun p => !seen.contains p.2) = [] → (∀ ty, (Instr.next (ac.tmps.getD it undef) false ty).run P wc = .ok (.tuple [.bool false].toArray) wc) →
          (Code.seq (.region i2 ops2 false) (.seq (.cond (.tmp ok) .skip (.exit i)) (.block l (.seq (.region i3 ops3 false) c')))).wp P (Exit.then (Code.rounds P (.seq (.region i2 ops2 false) (.seq (.cond (.tmp ok) .skip (.exit i)) (.block l (.seq (.region i3 ops3 false) c')))) (Exit.inBlock i Q) n) (Exit.inBlock i Q)) ac wc := by
        intro hnil hnext
        rw [hnil, List.map_nil, List.append_nil] at j8
        obtain ⟨q, q1, q2, q3⟩ := hall kv j8
        rw [j6] at q1
        cases q1
        simp only at q2 q3
        subst q2
        obtain ⟨ρ', n1, n2, n3⟩ := r0.rename j1.rel j2 (fun b pl h1 h2 => by rw [List.length_append]; exact j3 b pl h1 h2) q3
        have hx := n3 hst1.rel (by simp) j1.ext
        refine each_head okn hnxok hnext rfl j1.size ?_
        intro a' ha1 ha2 ha3
        simp only [Bool.false_eq_true, if_false]
        show Exit.inBlock i Q (.exit i) a' wc
        simp only [Exit.inBlock, if_true]
        refine hn .normal _ _ ρ' a' wc hk ⟨n2, ?_, hst1.ext.trans hx hR.dom, ha2, ha3.trans (j1.defers.trans hst1.defers), ?_⟩
        · intro t
          rw [get_append]
          split
          · rename_i ht
            have ht' : t ∈ st.map Prod.fst := by rwa [dec_keys] at ht
            have h1 := j1.env t
            rw [← dec_get j7 t ht] at h1
            obtain ⟨pr, hpr, rfl⟩ := List.mem_map.1 ht'
            have hno := hstit pr hpr
            rw [ha1 pr.1 (fun h => hno (by simp [h])) (fun h => hno (by simp [h]))]
            exact dec_flat hflat ht h1
          · rw [without_get]
            split
            · trivial
            · rename_i ht
              have hta : a'.tmps.getD t undef = ac.tmps.getD t undef := ha1 t (fun h => ht (by rw [h, hD]; simp)) (fun h => ht (by rw [h, hD]; simp))
              have h1 := j1.env t
              rw [j1.agree t ht] at h1
              rw [hta]
              exact (VRel.back j1.ext.le (hst1.env t) h1).mono (Rho.le_trans x0.le n1)
        · intro t ht
          have ht' : t ∉ it :: D := fun h => ht (by simp only [A.dsts, List.mem_append]; rw [← hD]; exact .inr h)
          rw [join_agree j7 j1.agree t ht', hst1.agree t (fun h => ht (by simp only [A.dsts, List.mem_append]; exact .inl h))]
      rcases j9 with ⟨rfl, rfl, rfl⟩ | ⟨bb, pl, es, ents, rfl, rfl, j10, j11, j12, j13, j14⟩
      · refine fin rfl (fun ty => ?_)
        rw [hptr]
        simp [Instr.next, getObj, Sem.run, j5, Result.andThen]
      have hρb : ρc bb = some pl := j1.ext.le _ _ j10
      obtain ⟨ents', l0, ck, c1, c2, c3, c4, c5⟩ := (j1.rel.mp bb pl es hd.2 hρb j11).ex
      rw [j13] at c1
      cases c1
      have hborn : ∀ z ∈ ents.toList, z.born < since := fun z hz => c5 z (c2.subset hz)
      have hnod : (ents.toList.map (·.born)).Nodup := by
        have h1 : l0.Pairwise fun e f => e.born ≠ f.born := c4
        have h2 : ents.toList.Pairwise fun e f => e.born ≠ f.born := (c2.pairwise_iff (fun h hh => h hh.symm)).2 h1
        exact List.pairwise_map.2 h2
      have hnodK : (KB.map Prod.snd).Nodup := by
        rw [← j14, List.map_map]; exact hnod
      have hleft := left_list ents seen
      rw [j14] at hleft
      have hnx := fun ty => run_next_at (P := P) wc ty K pl.k since since seen ents since j5 j13 hborn (Nat.le_refl _)
      rcases Nat.eq_zero_or_pos (leftOf ents seen).size with hz | hz
      · have hnil : (KB.filter fun p => !seen.contains p.2) = [] := by
          rw [← hleft, Array.eq_empty_of_size_eq_zero hz]; rfl
        refine fin hnil (fun ty => ?_)
        rw [hptr]
        rcases hnx ty with ⟨_, h⟩ | ⟨z, hz', _⟩
        · exact h
        · rw [Array.eq_empty_of_size_eq_zero hz] at hz'; simp at hz'
      -- the type of an operation does not matter
      have hnx1 : ∃ ez ∈ (leftOf ents seen).toList, ∃ w' : World, (w' = wc ∨ w' = wc.drew) ∧ ∀ ty, (Instr.next (.pointer (some ⟨K, 0, none⟩)) false ty).run P wc = .ok (.tuple #[.bool true, ez.key, ez.val]) (Go.ChangeMaps.setBlock w' K (.mapIter (some pl.k) since (seen.push ez.born) since)) := by
        rcases hnx 0 with ⟨h, _⟩ | ⟨ez, h1, w', h2, h3⟩
        · omega
        · exact ⟨ez, h1, w', h2, fun ty => h3⟩
      obtain ⟨ez, hez, w', hw', hrun'⟩ := hnx1
      obtain ⟨hez1, hez2⟩ := mem_left hez
      obtain ⟨w2, hw2⟩ : ∃ q, q = Go.ChangeMaps.setBlock w' K (.mapIter (some pl.k) since (seen.push ez.born) since) := ⟨_, rfl⟩
      rw [← hw2] at hrun'
      have hwh : w'.heap = wc.heap := by rcases hw' with rfl | rfl <;> rfl
      have hKlt : K < wc.heap.size := by
        rcases Nat.lt_or_ge K wc.heap.size with h | h
        · exact h
        · rw [Array.getElem?_eq_none h] at j5; cases j5
      have h2K : w2.heap[K]? = some (.mapIter (some pl.k) since (seen.push ez.born) since) := by
        rw [hw2]; show (w'.heap.setIfInBounds K _)[K]? = _
        rw [hwh, Array.getElem?_setIfInBounds_self_of_lt hKlt]
      have h2o : ∀ j, j ≠ K → w2.heap[j]? = wc.heap[j]? := fun j hj => by
        rw [hw2]; show (w'.heap.setIfInBounds K _)[j]? = _
        rw [hwh, Array.getElem?_setIfInBounds_ne (Ne.symm hj)]
      have h2s : w2.heap.size = wc.heap.size := by
        rw [hw2]; show (w'.heap.setIfInBounds K _).size = _
        rw [hwh]; simp
      have h2os : w2.os = wc.os := by rw [hw2]; rcases hw' with rfl | rfl <;> rfl
      have h2tape : w2.tape = wc.tape := by rw [hw2]; rcases hw' with rfl | rfl <;> rfl
      have h2out : w2.output = wc.output := by rw [hw2]; rcases hw' with rfl | rfl <;> rfl
      have R2 : R ρc Hc w2 := j1.rel.aside (K := K) (fun _ _ _ h => by rw [j5] at h; cases h) (fun _ _ h => by rw [j5] at h; cases h) h2o
      have X2 : Ext ρ1 H1 w1 ρc Hc w2 := by
        have x := j1.ext
        refine ⟨x.le, x.len, x.new, x.wr, by rw [h2s]; exact x.size, h2os.trans x.os, h2tape.trans x.tape, h2out.trans x.output, fun j hj hno => ?_, fun b pl es dc h1 h2 => ?_⟩
        · rw [h2o j (by omega)]; exact x.frame j hj hno
        · obtain ⟨es', dc', h3, h4⟩ := x.maps b pl es dc h1 h2
          have := (hst1.rel.mp b pl es dc h1 h2).lt
          exact ⟨es', dc', h3, by rw [h2o _ (by omega)]; exact h4⟩
      have hmapK : pl.k ≠ K := fun h => by rw [h, j5] at j13; cases j13
      have h2map : w2.heap[pl.k]? = some (.map ents since) := (h2o _ hmapK).trans j13
      -- the key and its value
      obtain ⟨xe, hxe1, hxe2, hxe3⟩ := c3.mem ez (c2.subset hez1)
      have hkey : keyI ez.key = xe.1 := by rw [hxe2]; rfl
      have hsort := (j1.rel.mp bb pl es hd.2 hρb j11).sorted
      have hfind := mfind_mem hsort hxe1
      have hmemKB : (xe.1, ez.born) ∈ KB := by
        rw [← j14]; exact List.mem_map.2 ⟨ez, hez1, by rw [hkey]⟩
      have hperm := left_perm seen xe.1 ez.born hez2 KB hnodK hmemKB
      have hsplit : (kv ++ (xe.1 :: (KB.filter fun p => !(seen.push ez.born).contains p.2).map Prod.fst)).Perm ks :=
        (List.Perm.append_left kv (by have := hperm.map Prod.fst; rw [List.map_cons] at this; exact this.symm)).trans j8
      obtain ⟨q, q1, _, _⟩ := hall _ hsplit
      rw [runK_append, j6] at q1
      have q1 : runK step (some bb) hd (xe.1 :: (KB.filter fun p => !(seen.push ez.born).contains p.2).map Prod.fst) s Hc = some q := q1
      simp only [runK] at q1
      obtain ⟨⟨s', H'⟩, q2, q3⟩ := Option.bind_some_inv q1
      have hhead : mhead H' (some bb) = some hd := by
        by_cases h : mhead H' (some bb) = some hd
        · exact h
        · rw [if_neg h] at q3; cases q3
      have hnext1 : runK step (some bb) hd (kv ++ [xe.1]) s0 (H1 ++ [.dead]) = some (s', H') := by
        rw [runK_append, j6]
        show runK step (some bb) hd [xe.1] s Hc = _
        simp only [runK, q2]
        show (if mhead H' (some bb) = some hd then _ else none) = _
        rw [if_pos hhead]
      rw [hstep] at q2
      obtain ⟨v, hv, hbody⟩ := Option.bind_some_inv q2
      have hvw : xe.2 = ty.mk v := by
        unfold mat mgetW at hv
        simp only [Heap.mpAt, j11, Option.bind_some] at hv
        rw [hfind] at hv
        exact Ty.un_mk hv
      refine each_head okn hnxok (bv := true) (vs := [.bool true, ez.key, ez.val]) (fun ty => by rw [hptr]; exact hrun' ty) rfl j1.size ?_
      intro a' ha1 ha2 ha3
      simp only [if_true]
      -- the entry
      unfold entOK at oke
      simp only [Bool.and_eq_true, decide_eq_true_eq] at oke
      obtain ⟨⟨⟨n1, n2⟩, n3⟩, n4⟩ := oke
      have lent : ent < nt := by simpa [Nat.blt_eq] using n3
      have henop : en.op = .entry (.tmp it) := by
        split at n4
        · rename_i t h; rw [h, of_decide_eq_true n4]
        · cases n4
      have hptr' : a'.tmps.getD it undef = .pointer (some ⟨K, 0, none⟩) := (ha1 it hitnx hitok).trans hptr
      refine wp_block (wp_seq (wp_region ?_))
      rw [hrange3]
      refine wpOps_one hen n2 (wp_sem (s := Instr.entry (a'.tmps.getD it undef)) (by simp [execOp, henop, Act.eval]) (by rw [hptr']; exact run_entry_at w2 K pl.k since seen ents since ez h2K h2map hez1 hnod) ?_)
      rw [n1]
      obtain ⟨a2, ha2'⟩ : ∃ q, q = a'.put (some ent) (.tuple #[ez.key, ez.val]) := ⟨_, rfl⟩
      rw [← ha2']
      have hent : a2.tmps.getD ent undef = .tuple #[ez.key, ez.val] := by rw [ha2']; exact getD_put_same (Nat.lt_of_lt_of_le lent ha2)
      have hoth : ∀ t, t ≠ ent → a2.tmps.getD t undef = a'.tmps.getD t undef := fun t h => by rw [ha2']; exact getD_put_other (by simp [Ne.symm h])
      obtain ⟨eb, heb⟩ : ∃ q : Env, q = (ent, .tup [.one (.int .i64 xe.1), ty.mk v]) :: (it, .w (.one (.ptr (some (H1.length, 0))))) :: (OT.dec st s ++ e1.without (it :: D)) := ⟨_, rfl⟩
      have hebD : ∀ t, t ∉ it :: D → eb.get t = e1.get t := fun t ht => by
        rw [heb, Env.get_cons, if_neg (fun h => ht (by rw [← h, hD]; simp)), Env.get_cons, if_neg (fun h => ht (by rw [← h]; simp)), join_agree j7 j1.agree t ht]
      have hebit : eb.get it = .w (.one (.ptr (some (H1.length, 0)))) := by rw [heb, Env.get_cons, if_neg (Ne.symm hitent), Env.get_cons, if_pos rfl]
      have hEnv : EnvRel ρc eb a2 := by
        intro t
        by_cases e1' : t = ent
        · subst e1'
          rw [heb, Env.get_cons, if_pos rfl, hent]
          refine ⟨[ez.key, ez.val], rfl, hxe2, ?_, trivial⟩
          rw [← hvw]; exact hxe3
        · rw [hoth t e1']
          by_cases e2' : t = it
          · subst e2'
            rw [hebit, hptr', ← hptr]
            have := j1.env t
            rw [j4] at this
            exact this
          · rw [heb, Env.get_cons, if_neg (Ne.symm e1'), Env.get_cons, if_neg (Ne.symm e2'), get_append]
            split
            · rename_i ht
              have ht' : t ∈ st.map Prod.fst := by rwa [dec_keys] at ht
              have h1 := j1.env t
              rw [← dec_get j7 t ht] at h1
              obtain ⟨pr, hpr, rfl⟩ := List.mem_map.1 ht'
              have hno := hstit pr hpr
              rw [ha1 pr.1 (fun h => hno (by simp [h])) (fun h => hno (by simp [h]))]
              exact h1
            · rw [without_get]
              split
              · trivial
              · rename_i ht
                rw [ha1 t (fun h => ht (by rw [h, hD]; simp)) (fun h => ht (by rw [h, hD]; simp)), ← j1.agree t ht]
                exact j1.env t
      have hdef : a2.defers = a1.defers := by rw [ha2', put_defers, ha3, j1.defers]
      rw [← heb] at hbody
      refine seq_goes' hCO b lo3 1 ρc eb Hc a2 w2 hlo3 okb R2 hEnv (by rw [ha2', put_size]; exact ha2) hbody ?_
      intro e2 H2 ρ2 a3 w3 hbody2 hst2
      show c'.wp P _ a3 w3
      refine ih c' okc' (encN st) (s', H') ρ2 e2 H2 a3 w3 _ hbody2 hst2.rel hst2.env hst2.size ?_
      intro ex e3 H3 ρ3 a4 w4 hk3 hst3
      have hex : ex = .normal ∧ OT.enc st e3 = some s' ∧ H3 = H' := by
        cases ex with
        | normal =>
          obtain ⟨y, h1, h2⟩ := Option.bind_some_inv (show ((OT.enc st e3).bind fun s => some (s, H3)) = some (s', H') from hk3)
          cases h2
          exact ⟨rfl, h1, rfl⟩
        | ret => cases hk3
        | exit id => cases hk3
      obtain ⟨rfl, henc, rfl⟩ := hex
      show Code.rounds P _ _ n a4 w4
      have hxx : Ext ρc Hc w2 ρ3 H3 w4 := hst2.ext.trans hst3.ext R2.dom
      obtain ⟨es3, dc3, m1, m2⟩ := hxx.maps bb pl es hd.2 hρb j11
      have hm3 : (es3.length, dc3) = hd := by
        unfold mhead at hhead
        simp only [Heap.mpAt, m1, Option.bind_some, Option.some.injEq] at hhead
        exact hhead
      have hm4 : es3.length = hd.1 := by rw [← hm3]
      have hm5 : dc3 = hd.2 := by rw [← hm3]
      subst hm5
      obtain ⟨_, m3⟩ := m2
      obtain ⟨_, m4⟩ := m3 rfl
      obtain ⟨en1, en2, ck3, m5, m6, m7⟩ := m4 (by omega)
      rw [h2map] at m5
      cases m5
      refine ihn (kv ++ [xe.1]) (seen.push ez.born) s' H3 ρ3 e3 a4 w4 ?_ ⟨hst3.rel, hst3.env, X2.trans hxx hst1.rel.dom, hst3.size, hst3.defers.trans (hst2.defers.trans hdef), fun t ht => ?_⟩ (Rho.le_trans j2 hxx.le) ?_ ?_ ?_ hnext1 henc ?_ ?_
      · have := hperm.length_eq
        rw [List.length_cons] at this
        omega
      · rw [hst3.agree t (fun h => ht (by rw [hD]; simp [h])), hst2.agree t (fun h => ht (by rw [hD]; simp [h])), hebD t ht]
      · intro b' pl' h1 h2
        cases h3 : ρc b' with
        | some p' =>
          have := hxx.le _ _ h3
          rw [h1] at this
          exact j3 b' p' h3 h2
        | none =>
          have h4 := (hxx.new b' pl' h1 h3).1
          have h5 := j1.rel.dom _ _ (j2 _ _ hρK)
          omega
      · rw [hst3.agree it (fun h => hit (by rw [hD]; simp [h])), hst2.agree it (fun h => hit (by rw [hD]; simp [h])), hebit]
      · rw [hxx.frame K (by rw [h2s]; exact hKlt) (fun b' pl' h1 h2 h3 => ?_), h2K]
        rcases h3 with ⟨cs, bk, h3, _⟩ | ⟨es', dc', h3⟩
        · obtain ⟨⟨vs, el, fr, h4, _⟩, _⟩ := R2.blk b' pl' cs bk h1 h3
          rw [h2, h2K] at h4; cases h4
        · obtain ⟨⟨_, _, _, h4, _⟩, _⟩ := R2.mp b' pl' es' dc' h1 h3
          rw [h2, h2K] at h4; cases h4
      · rw [List.append_assoc]; exact hsplit
      · refine .inr ⟨bb, pl, es3, en2, rfl, rfl, j10, m1, hm4, m6, ?_⟩
        rw [← j14]
        have := congrArg (List.map fun p : Value × Nat => (keyI p.1, p.2)) m7
        rw [List.map_map, List.map_map] at this
        exact this.symm
  refine key (KB.length + 1) [] #[] s0 (H1 ++ [.dead]) ρ0 ((it, .w (.one (.ptr (some (H1.length, 0))))) :: e1) (a1.put (some it) (.pointer (some ⟨K, 0, none⟩))) (w1.alloc (.mapIter mb since #[] since)) ?_ ⟨r0, ?_, x0, by rw [put_size]; exact hst1.size, put_defers, fun t ht => ?_⟩ (Rho.le_refl _) (fun b' pl' h1 h2 => by rw [h1] at h2; cases h2) (by rw [Env.get_cons, if_pos rfl]) ?_ rfl ?_ ?_ ?_
  · have := List.length_filter_le (fun p : Int × Nat => !(#[] : Array Nat).contains p.2) KB
    omega
  · intro t
    rw [Env.get_cons]
    split
    · rename_i h
      subst h
      rw [getD_put_same (Nat.lt_of_lt_of_le l3 hst1.size)]
      exact (⟨_, hρK, rfl⟩ : CRel ρ0 (.ptr (some (H1.length, 0))) _)
    · rename_i h
      rw [getD_put_other (by simp [h])]
      exact (hst1.env t).mono x0.le
  · rw [Env.get_cons, if_neg (fun h => ht (by rw [h]; simp))]
  · rw [hK]; show (w1.heap.push _)[w1.heap.size]? = _; simp
  · have : OT.enc st ((it, .w (.one (.ptr (some (H1.length, 0))))) :: e1) = OT.enc st e1 := enc_other (fun p hp => fun h => hstit p hp (by simp [h]))
    rw [this]; exact hs0
  · have h0 : (KB.filter fun p => !(#[] : Array Nat).contains p.2) = KB := List.filter_eq_self.2 (fun _ _ => by simp)
    rw [h0]; exact hKB
  · rcases hcase with h | ⟨bb, pl, es, ents, g1, g2, g3, g4, g5, g6, g7⟩
    · exact .inl h
    · have hlt := (hst1.rel.mp bb pl es hd.2 g3 g4).lt
      refine .inr ⟨bb, pl, es, ents, g1, g2, g3, by rw [List.getElem?_append_left (hst1.rel.dom _ _ g3)]; exact g4, g5, ?_, g7⟩
      show (w1.heap.push _)[pl.k]? = _
      rw [getElem?_push_lt _ _ hlt]; exact g6

theorem evS_goes (hCO : CallsOK P calls fids) (hD : ∀ its ops, drawOK its ops = true → RegSound P calls nt its ops) :
    ∀ (s : A) (c : Code), codeOK P fids nt drawOK s c = true → ∀ {R0 : Type} (k : Ex → Env → Heap → Option R0) (r : R0) (ρ : Rho) (e : Env) (H : Heap) (a : Act) (w : World) (Q : Exit → Act → World → Prop),
      evS calls s e H k = some r → R ρ H w → EnvRel ρ e a → nt ≤ a.tmps.size →
      (∀ ex e' H' ρ' a' w', k ex e' H' = some r → Step nt s.dsts ρ e H a w ρ' e' H' a' w' → Q ex.to a' w') → c.wp P Q a w := by
  intro s
  induction s with
  | skip =>
    intro c ok R0 k r ρ e H a w Q hev hR he hs hn
    cases c <;> simp only [codeOK] at ok <;> try contradiction
    exact wp_skip (hn .normal e H ρ a w hev (Step.refl hR he hs))
  | ret =>
    intro c ok R0 k r ρ e H a w Q hev hR he hs hn
    cases c <;> simp only [codeOK] at ok <;> try contradiction
    exact wp_ret (hn .ret e H ρ a w hev (Step.refl hR he hs))
  | exit id =>
    intro c ok R0 k r ρ e H a w Q hev hR he hs hn
    cases c <;> simp only [codeOK] at ok <;> try contradiction
    have ok := of_decide_eq_true ok
    subst ok
    exact wp_exit (hn (.exit id) e H ρ a w hev (Step.refl hR he hs))
  | seq x y ihx ihy =>
    intro c ok R0 k r ρ e H a w Q hev hR he hs hn
    cases c <;> simp only [codeOK] at ok <;> try contradiction
    simp only [Bool.and_eq_true] at ok
    refine wp_seq (ihx _ ok.1 _ r ρ e H a w _ hev hR he hs ?_)
    intro ex e' H' ρ' a' w' hk hst
    have up : ∀ {ex}, k ex e' H' = some r → Q ex.to a' w' := fun {ex} hk =>
      hn ex e' H' ρ' a' w' hk ⟨hst.rel, hst.env, hst.ext, hst.size, hst.defers, fun t ht => hst.agree t (fun hh => ht (by simp [A.dsts, hh]))⟩
    cases ex with
    | normal =>
      refine ihy _ ok.2 k r ρ' e' H' a' w' _ hk hst.rel hst.env hst.size ?_
      intro ex e'' H'' ρ'' a'' w'' hk' hst'
      exact hn ex _ _ _ _ _ hk' (hst.trans hR hst' (fun t ht => by simp only [A.dsts, List.mem_append]; exact ht))
    | ret => exact up hk
    | exit id => exact up hk
  | cond x y z ihy ihz =>
    intro c ok R0 k r ρ e H a w Q hev hR he hs hn
    cases c <;> simp only [codeOK] at ok <;> try contradiction
    simp only [Bool.and_eq_true] at ok
    obtain ⟨⟨o1, o2⟩, o3⟩ := ok
    simp only [evS] at hev
    split at hev
    · rename_i t ht
      have hb := vrel_bool (opd_rel he o1) ht
      refine wp_cond hb ?_
      cases t
      · exact ihz _ o3 k r ρ e H a w Q hev hR he hs fun ex e' H' ρ' a' w' hk hst =>
          hn ex _ _ _ _ _ hk ⟨hst.rel, hst.env, hst.ext, hst.size, hst.defers, fun t ht => hst.agree t (fun hh => ht (by simp [A.dsts, hh]))⟩
      · exact ihy _ o2 k r ρ e H a w Q hev hR he hs fun ex e' H' ρ' a' w' hk hst =>
          hn ex _ _ _ _ _ hk ⟨hst.rel, hst.env, hst.ext, hst.size, hst.defers, fun t ht => hst.agree t (fun hh => ht (by simp [A.dsts, hh]))⟩
    · cases hev
  | block id x ih =>
    intro c ok R0 k r ρ e H a w Q hev hR he hs hn
    cases c <;> simp only [codeOK] at ok <;> try contradiction
    simp only [Bool.and_eq_true, decide_eq_true_eq] at ok
    obtain ⟨rfl, ok⟩ := ok
    simp only [evS] at hev
    refine wp_block (ih _ ok _ r ρ e H a w _ hev hR he hs ?_)
    intro ex e' H' ρ' a' w' hk hst
    by_cases hx : ex = .exit id
    · subst hx
      simp only [decide_true, cond_true] at hk
      simp only [Ex.to, Exit.inBlock, if_true]
      exact hn .normal _ _ _ _ _ hk hst
    · simp only [hx, decide_false, cond_false] at hk
      have hq := hn ex _ _ _ _ _ hk hst
      cases ex with
      | normal => exact hq
      | ret => exact hq
      | exit id' =>
        have : id' ≠ id := fun h => hx (by rw [h])
        simp only [Ex.to, Exit.inBlock, if_neg this]
        exact hq
  | reg its =>
    intro c ok R0 k r ρ e H a w Q hev hR he hs hn
    cases c <;> simp only [codeOK] at ok <;> try contradiction
    rename_i id ops draw
    simp only [evS] at hev
    cases draw with
    | true => exact hD its ops ok id hR he hs hev fun e' H' ρ' a' w' hk hst => hn .normal _ _ _ _ _ hk hst
    | false =>
      refine wp_region ?_
      have := seq_goes (Q := Q) hCO its ops.toList 0 ρ e H a w (by simp) ok hR he hs hev fun e' H' ρ' a' w' hk hst => hn .normal _ _ _ _ _ hk hst
      rw [Array.length_toList] at this
      rw [List.range_eq_range']
      exact this
  | scope xs x ih =>
    intro c ok R0 k r ρ e H a w Q hev hR he hs hn
    have ok : codeOK P fids nt drawOK x c = true := by cases c <;> exact ok
    simp only [evS] at hev
    obtain ⟨p, h1, h2⟩ := Option.bind_some_inv hev
    refine ih c ok _ p ρ e H a w _ h1 hR he hs ?_
    intro ex e' H' ρ' a' w' hk hst
    obtain ⟨y, h3, h4⟩ := Option.bind_some_inv hk
    cases h4
    obtain ⟨o, z, _, m2, m3⟩ := XV.enc_dec h3 h2
    exact hn ex _ _ _ _ _ m3 ⟨hst.rel, join_rel hst.env m2 hst.agree, hst.ext, hst.size, hst.defers, fun t ht => join_agree m2 hst.agree t ht⟩
  | loop st xs x ih =>
    intro c ok R0 k r ρ e H a w Q hev hR he hs hn
    cases c <;> simp only [codeOK] at ok <;> try contradiction
    rename_i c
    simp only [evS] at hev
    obtain ⟨s0, h0, hev1⟩ := Option.bind_some_inv hev
    obtain ⟨p, h1, h2⟩ := Option.bind_some_inv hev1
    obtain ⟨n, hit⟩ := loopW_some h1
    refine wp_loop_rounds n ?_
    have key : ∀ (n : Nat) (s : OT st) (e1 : Env) (H1 : Heap) (ρ1 : Rho) (a1 : Act) (w1 : World), iter (fun s H => evS calls x (OT.dec st s ++ e.without x.dsts) H fun ex e' H' =>
          match ex with
          | .normal => (OT.enc st e').bind fun s' => some (Sum.inl s', H')
          | ex => (XV.enc xs ex e').bind fun x => some (Sum.inr x, H')) n s H1 = some p →
        OT.enc st e1 = some s → Step nt x.dsts ρ e H a w ρ1 e1 H1 a1 w1 → Code.rounds P c Q n a1 w1 := by
      intro n
      induction n with
      | zero => intro s e1 H1 ρ1 a1 w1 h; cases h
      | succ n ihn =>
        intro s e1 H1 ρ1 a1 w1 hit hs1 hst1
        simp only [iter] at hit
        obtain ⟨q, hq1, hq2⟩ := Option.bind_some_inv hit
        rw [rounds_succ]
        have hag : ∀ t, t ∉ x.dsts → (OT.dec st s ++ e.without x.dsts).get t = e.get t := fun t ht => join_agree hs1 hst1.agree t ht
        refine ih c ok _ q ρ1 (OT.dec st s ++ e.without x.dsts) H1 a1 w1 _ hq1 hst1.rel (join_rel hst1.env hs1 hst1.agree) hst1.size ?_
        intro ex e' H' ρ' a' w' hk hst
        have hall : Step nt x.dsts ρ e H a w ρ' e' H' a' w' :=
          ⟨hst.rel, hst.env, hst1.ext.trans hst.ext hR.dom, hst.size, hst.defers.trans hst1.defers, fun t ht => by rw [hst.agree t ht, hag t ht]⟩
        have out : ∀ {ex : Ex}, ((XV.enc xs ex e').bind fun x => some ((Sum.inr x, H') : (OT st ⊕ XV xs) × Heap)) = some q → Q ex.to a' w' := by
          intro ex hk
          obtain ⟨y, h3, h4⟩ := Option.bind_some_inv hk
          cases h4
          simp only [Sum.elim_inr] at hq2
          cases hq2
          obtain ⟨o, z, _, m2, m3⟩ := XV.enc_dec h3 h2
          exact hn ex _ _ _ _ _ m3 ⟨hall.rel, join_rel hall.env m2 hall.agree, hall.ext, hall.size, hall.defers, fun t ht => join_agree m2 hall.agree t ht⟩
        cases ex with
        | normal =>
          simp only at hk
          obtain ⟨s', h3, h4⟩ := Option.bind_some_inv hk
          cases h4
          simp only [Sum.elim_inl] at hq2
          exact ihn s' e' H' ρ' a' w' hq2 h3 hall
        | ret => exact out hk
        | exit id => exact out hk
    exact key n s0 e H ρ a w hit h0 (Step.refl hR he hs)
  | each its m it nx ok ent ty st b x ih =>
    intro c okc R0 k r ρ e H a w Q hev hR he hs hn
    exact each_goes hCO (fun c h => ih c h) okc k r ρ e H a w Q hev hR he hs hn

end
end Ev
namespace Ev
open Go

def resOK (P : Program) : List ARes → List Ty → List ResultVar → Bool
  | [], [], [] => true
  | .t n :: l, _ :: ts, .tmp m :: r => decide (n = m) && resOK P l ts r
  | .cell n :: l, ty :: ts, .cell m t :: r => decide (n = m) && tyOK P t ty && resOK P l ts r
  | _, _, _ => false

section
variable {P : Program} {a : Act} {w : World} {ρ : Rho} {H : Heap} {e : Env} {R0 : Type} {r : R0}

/-- One variable read. -/
theorem rd_loadVar (hR : R ρ H w) {b : Nat × Nat} {pl : Pl} {ty : Ty} {v : ty.T} {t : TypeId} (h2 : ρ b.1 = some pl) (hv : rd H ty b.1 b.2 = some v) (o2 : tyOK P t ty = true) :
    ∃ u, (loadVar t ⟨pl.k, pl.base + b.2, none⟩).run P w = .ok u w ∧ WRel ρ (ty.mk v) u := by
  cases ty with
  | one c =>
    obtain ⟨acs, bk, hb, hc⟩ := rd_one hv
    obtain ⟨⟨vs, el, fr, g1, g2, g3, _⟩, hlen, hfit, _⟩ := hR.blk _ _ _ _ h2 hb
    obtain ⟨u, g4, g5⟩ := g3.get hc
    have hlt : b.2 < pl.n := by
      rcases Nat.lt_or_ge b.2 acs.length with h | h
      · omega
      · rw [List.getElem?_eq_none h] at hc; cases hc
    have g6 : vs[pl.base + b.2]? = some u := by
      rw [List.getElem?_take_of_lt hlt, List.getElem?_drop] at g4; exact g4
    simp only [tyOK, decide_eq_true_eq] at o2
    refine ⟨u, ?_, g5⟩
    simp only [Sem.run_bind, Result.andThen, loadVar, run_isAgg o2, Bool.false_eq_true, if_false]
    simp [load, Sem.run, cell?_row g1, g6]
  | agg ts =>
    obtain ⟨cs, hc, hu⟩ := Option.bind_some_inv hv
    obtain ⟨vs, el, fr, g1, g2, g3⟩ := hR.row h2 hc
    obtain ⟨q1, q2⟩ := run_tyOK_agg (w := w) o2
    rw [Tup.un_mk hu] at g3
    refine ⟨.agg ((vs.drop (pl.base + b.2)).take ts.length).toArray, ?_, _, rfl, g3⟩
    simp only [Sem.run_bind, Sem.run_pure, Result.andThen, loadVar, q1, if_true, q2, run_loadCells_row g1 _ _ g2]

def readRes (tm : Array Value) : ResultVar → Sem Value
  | .tmp t => pure (tm.getD t undef)
  | .cell q t => do loadVar t (← asAddr (tm.getD q undef))
theorem results_eq (fn : Func) (tm : Array Value) : results fn tm = (do let vs ← fn.results.mapM (readRes tm); pure (if h : vs.size = 1 then vs[0] else .tuple vs)) := rfl
theorem readRes_tmp {t : Nat} : (readRes a.tmps (.tmp t)).run P w = .ok (a.tmps.getD t undef) w := rfl
theorem readRes_cell {q : Nat} {t : TypeId} {x : Addr} {u : Value} (h : a.tmps.getD q undef = .pointer (some x)) (hu : (loadVar t x).run P w = .ok u w) : (readRes a.tmps (.cell q t)).run P w = .ok u w := by
  simp only [readRes, Sem.run_bind, h, asAddr, Sem.run_pure, Result.andThen, hu]

theorem res_run (hR : R ρ H w) (he : EnvRel ρ e a) : ∀ (l : List ARes) (rs : List Ty) (rv : List ResultVar) (k : TL rs → Option R0), resOK P l rs rv = true → resOf e H l rs k = some r →
    ∃ (x : TL rs) (vs : List Value), k x = some r ∧ WsRel ρ (TL.mk rs x) vs ∧
      (rv.mapM (readRes a.tmps)).run P w = .ok vs w
  | [], [], [], k, _, h => ⟨(), [], h, trivial, by simp⟩
  | .t n :: l, ty :: ts, .tmp m :: rv, k, ok, h => by
    simp only [resOK, Bool.and_eq_true, decide_eq_true_eq] at ok
    obtain ⟨rfl, ok⟩ := ok
    simp only [resOf, ARes.get] at h
    split at h
    · rename_i y hy
      obtain ⟨p, h1, h2⟩ := Option.bind_some_inv h
      obtain ⟨x, vs, g1, g2, g3⟩ := res_run hR he l ts rv _ ok h2
      have hv := he n
      rw [hy, Ty.un_mk h1] at hv
      refine ⟨(p, x), a.tmps.getD n undef :: vs, g1, ⟨hv, g2⟩, ?_⟩
      simp only [List.mapM_cons, Sem.run_bind, Sem.run_pure, Result.andThen, g3, readRes_tmp]
    · cases h
  | .cell n :: l, ty :: ts, .cell m t :: rv, k, ok, h => by
    simp only [resOK, Bool.and_eq_true, decide_eq_true_eq] at ok
    obtain ⟨⟨rfl, o2⟩, ok⟩ := ok
    simp only [resOf, ARes.get] at h
    split at h
    · rename_i q hy
      obtain ⟨b, rfl, h'⟩ := Option.bind_some_inv h
      obtain ⟨p, h1, h2⟩ := Option.bind_some_inv h'
      obtain ⟨x, vs, g1, g2, g3⟩ := res_run hR he l ts rv _ ok h2
      have hv := he n
      rw [hy] at hv
      obtain ⟨pl, q1, q2⟩ := (hv : CRel ρ (.ptr (some b)) _)
      obtain ⟨u, u1, u2⟩ := rd_loadVar (P := P) hR q1 h1 o2
      refine ⟨(p, x), u :: vs, g1, ⟨u2, g2⟩, ?_⟩
      simp only [List.mapM_cons, Sem.run_bind, Sem.run_pure, Result.andThen, readRes_cell q2 u1, g3]
    · cases h
  | [], [], _ :: _, _, ok, _ => by simp [resOK] at ok
  | [], _ :: _, _, _, ok, _ => by simp [resOK] at ok
  | .t _ :: _, [], _, _, ok, _ => by simp [resOK] at ok
  | .t _ :: _, _ :: _, [], _, ok, _ => by simp [resOK] at ok
  | .t _ :: _, _ :: _, .cell _ _ :: _, _, ok, _ => by simp [resOK] at ok
  | .cell _ :: _, [], _, _, ok, _ => by simp [resOK] at ok
  | .cell _ :: _, _ :: _, [], _, ok, _ => by simp [resOK] at ok
  | .cell _ :: _, _ :: _, .tmp _ :: _, _, ok, _ => by simp [resOK] at ok

theorem wsrel_length : ∀ {xs : List W} {vs : List Value}, WsRel ρ xs vs → xs.length = vs.length
  | [], [], _ => rfl
  | _ :: _, _ :: _, h => by simp [wsrel_length h.2]
  | [], _ :: _, h => h.elim
  | _ :: _, [], h => h.elim

theorem res_vrel {rs : List Ty} {x : TL rs} {vs : List Value} (h : WsRel ρ (TL.mk rs x) vs) :
    VRel ρ (resV rs x) (if hs : vs.toArray.size = 1 then vs.toArray[0] else .tuple vs.toArray) := by
  match rs, x, h with
  | [], _, h =>
    cases vs with
    | nil => exact ⟨[], rfl, trivial⟩
    | cons _ _ => exact h.elim
  | [t], x, h =>
    match vs, h with
    | [v], h => exact h.1
    | [], h => exact h.elim
    | _ :: _ :: _, h => exact h.2.elim
  | t :: u :: r, x, h =>
    match vs, h with
    | v :: v' :: vs, h =>
      have : ¬ (v :: v' :: vs).toArray.size = 1 := by simp
      rw [dif_neg this]
      exact ⟨_, rfl, h⟩
    | [], h => exact h.elim
    | [_], h => exact h.2.elim

theorem results_run (hR : R ρ H w) (he : EnvRel ρ e a) {fn : Func} {l : List ARes} {rs : List Ty} {k : TL rs → Option R0} (ok : resOK P l rs fn.results.toList = true) (h : resOf e H l rs k = some r) :
    ∃ (x : TL rs) (v : Value), k x = some r ∧ VRel ρ (resV rs x) v ∧ (results fn a.tmps).run P w = .ok v w := by
  obtain ⟨x, vs, g1, g2, g3⟩ := res_run hR he l rs _ k ok h
  refine ⟨x, _, g1, res_vrel g2, ?_⟩
  have hm : (fn.results.mapM (readRes a.tmps)).run P w = .ok vs.toArray w := by
    rw [Array.mapM_eq_mapM_toList]
    simp only [Sem.run_map, g3, Result.andThen]
  rw [results_eq]
  simp only [Sem.run_bind, hm, Result.andThen, Sem.run_pure]

theorem env_of {vs : List Value} : ∀ (ps : List Ty) (n : Nat) (x : TL ps), (∀ t, n ≤ t → True) → WsRel ρ (TL.mk ps x) vs → ∀ t, (envOf ps n x).get t = .und ∨ ∃ v, n ≤ t ∧ vs[t - n]? = some v ∧ VRel ρ ((envOf ps n x).get t) v := by
  intro ps
  induction ps generalizing vs with
  | nil => intro n x _ _ t; exact .inl rfl
  | cons p ps ih =>
    intro n x _ h t
    cases vs with
    | nil => exact h.elim
    | cons v vs =>
      simp only [envOf, Env.get_cons]
      split
      · rename_i hh; subst hh; exact .inr ⟨v, Nat.le_refl _, by simp, h.1⟩
      · rename_i hh
        rcases ih (n + 1) x.2 (fun _ _ => trivial) h.2 t with h1 | ⟨u, h1, h2, h3⟩
        · exact .inl h1
        · refine .inr ⟨u, by omega, ?_, h3⟩
          have : t - n = (t - (n + 1)) + 1 := by omega
          rw [this, List.getElem?_cons_succ]; exact h2

def fnOK (P : Program) (fids : Nat → Option FuncId) (drawOK : Nat → List Item → Array Oper → Bool) (f : AFun) (fn : Func) : Bool :=
  match fn.body with
  | some c => codeOK P fids fn.ntmps (drawOK fn.ntmps) f.body c && resOK P f.res f.rs fn.results.toList
  | none => false

def DrawSound (P : Program) (calls : Nat → Option Callee) (drawOK : Nat → List Item → Array Oper → Bool) : Prop :=
  ∀ nt its ops, drawOK nt its ops = true → RegSound P calls nt its ops

variable {calls : Nat → Option Callee} {fids : Nat → Option FuncId} {drawOK : Nat → List Item → Array Oper → Bool}

/-- The body's walk, for whatever is told in the end. -/
theorem body_calls (hCO : CallsOK P calls fids) (hD : DrawSound P calls drawOK) {f : AFun} {g : FuncId} {fn : Func} (hg : P.funcs[g]? = some fn) (ok : fnOK P fids drawOK f fn = true)
    {x : TL f.ps} {vs : List Value} (hR : R ρ H w) (hv : WsRel ρ (TL.mk f.ps x) vs) {tell : TL f.rs → Heap → Option R0}
    (hev : (evS calls f.body (envOf f.ps 0 x) H fun ex e H' => match ex with
      | .exit _ => none
      | _ => resOf e H' f.res f.rs fun r => tell r H') = some r) :
    Calls P g vs.toArray w fun en w' => ∃ v ρ' H' y, en = .returned v ∧ tell y H' = some r ∧ VRel ρ' (resV f.rs y) v ∧ R ρ' H' w' ∧ Ext ρ H w ρ' H' w' := by
  unfold fnOK at ok
  cases hb : fn.body with
  | none => rw [hb] at ok; cases ok
  | some c =>
    rw [hb] at ok
    simp only [Bool.and_eq_true] at ok
    refine calls_of_wp hg hb ?_
    have he : EnvRel ρ (envOf f.ps 0 x) { tmps := vs.toArray ++ Array.replicate (fn.ntmps - vs.toArray.size) undef, defers := [] } := by
      intro t
      rcases env_of f.ps 0 x (fun _ _ => trivial) hv t with h1 | ⟨v, h1, h2, h3⟩
      · rw [h1]; trivial
      · simp only [Nat.sub_zero] at h2
        have hlt : t < vs.length := (List.getElem?_eq_some_iff.1 h2).1
        have : (vs.toArray ++ Array.replicate (fn.ntmps - vs.toArray.size) undef).getD t undef = v := by
          rw [Array.getD_eq_getD_getElem?, Array.getElem?_append_left (by simpa using hlt)]
          simp [h2]
        show VRel ρ _ ((vs.toArray ++ Array.replicate (fn.ntmps - vs.toArray.size) undef).getD t undef)
        rw [this]; exact h3
    refine evS_goes hCO (fun its ops h => hD _ its ops h) f.body c ok.1 _ r ρ _ H _ w _ hev hR he (by simp; omega) ?_
    intro ex e' H' ρ' a' w' hk hst
    have fin : (resOf e' H' f.res f.rs fun r => tell r H') = some r → a'.defers = [] ∧ ∃ v, (results fn a'.tmps).run P w' = .ok v w' ∧ ∃ v' ρ' H' y, Ending.returned v = .returned v' ∧ tell y H' = some r ∧ VRel ρ' (resV f.rs y) v' ∧ R ρ' H' w' ∧ Ext ρ H w ρ' H' w' := by
      intro hk
      obtain ⟨y, v, g1, g2, g3⟩ := results_run (P := P) (fn := fn) hst.rel hst.env ok.2 hk
      exact ⟨hst.defers, v, g3, v, ρ', H', y, rfl, g1, g2, hst.rel, hst.ext⟩
    cases ex with
    | exit id => cases hk
    | normal => exact fin hk
    | ret => exact fin hk

theorem full_sound (hCO : CallsOK P calls fids) (hD : DrawSound P calls drawOK) {f : AFun} {g : FuncId} {fn : Func} (hg : P.funcs[g]? = some fn) (ok : fnOK P fids drawOK f fn = true) :
    (Callee.full f.ps f.rs (evFull calls f)).Sound P g := by
  intro ρ H w t r H' vs hR hv hev
  refine Calls.mono (body_calls hCO hD hg ok hR hv hev) ?_
  rintro en w' ⟨v, ρ', H1, y, rfl, h1, h2, h3, h4⟩
  cases h1
  exact ⟨v, ρ', rfl, h2, h3, h4⟩

/-! What refers to no block. -/
def flatC : CT → Bool
  | .int _ | .bool | .str => true
  | _ => false
def flatTy : Ty → Bool
  | .one c => flatC c
  | .agg cs => cs.all flatC

theorem flatC_rel {ρ ρ' : Rho} {c : CT} (h : flatC c = true) {x : c.T} {v : Value} (hr : CRel ρ (c.mk x) v) : CRel ρ' (c.mk x) v := by
  cases c <;> first | (simp [flatC] at h; done) | exact hr
theorem flatCs_rel {ρ ρ' : Rho} : ∀ {cs : List CT} {x : Tup cs} {vs : List Value}, cs.all flatC = true → CsRel ρ (Tup.mk cs x) vs → CsRel ρ' (Tup.mk cs x) vs
  | [], _, [], _, _ => trivial
  | c :: cs, x, v :: vs, h, hr => by
    simp only [List.all_cons, Bool.and_eq_true] at h
    exact ⟨flatC_rel h.1 hr.1, flatCs_rel h.2 hr.2⟩
  | [], _, _ :: _, _, hr => hr.elim
  | _ :: _, _, [], _, hr => hr.elim
theorem flat_rel {ρ ρ' : Rho} {t : Ty} (h : flatTy t = true) {x : t.T} {v : Value} (hr : WRel ρ (t.mk x) v) : WRel ρ' (t.mk x) v := by
  cases t with
  | one c => exact flatC_rel h hr
  | agg cs => obtain ⟨vs, h1, h2⟩ := hr; exact ⟨vs, h1, flatCs_rel h h2⟩
theorem flats_rel {ρ ρ' : Rho} : ∀ {ts : List Ty} {x : TL ts} {vs : List Value}, ts.all flatTy = true → WsRel ρ (TL.mk ts x) vs → WsRel ρ' (TL.mk ts x) vs
  | [], _, [], _, _ => trivial
  | t :: ts, x, v :: vs, h, hr => by
    simp only [List.all_cons, Bool.and_eq_true] at h
    exact ⟨flat_rel h.1 hr.1, flats_rel h.2 hr.2⟩
  | [], _, _ :: _, _, hr => hr.elim
  | _ :: _, _, [], _, hr => hr.elim
theorem flat_res {ρ ρ' : Rho} {rs : List Ty} {x : TL rs} {v : Value} (h : rs.all flatTy = true) (hr : VRel ρ (resV rs x) v) : VRel ρ' (resV rs x) v := by
  match rs, x, h, hr with
  | [], _, _, ⟨vs, h1, h2⟩ => exact ⟨vs, h1, by cases vs with | nil => trivial | cons _ _ => exact h2.elim⟩
  | [t], x, h, hr => simp only [List.all_cons, Bool.and_eq_true] at h; exact flat_rel h.1 hr
  | t :: u :: r, x, h, ⟨vs, h1, h2⟩ => exact ⟨vs, h1, flats_rel (ts := t :: u :: r) h h2⟩

theorem R.empty (w : World) : R (fun _ => none) [] w :=
  ⟨fun _ _ h => (by cases h), fun _ _ _ _ h => (by cases h), fun _ _ _ _ _ _ _ _ _ h => (by cases h), fun _ _ _ _ h => (by cases h), fun _ _ _ _ _ _ _ _ _ h => (by cases h)⟩

theorem pure_sound (hCO : CallsOK P calls fids) (hD : DrawSound P calls drawOK) {f : AFun} {g : FuncId} {fn : Func} (hg : P.funcs[g]? = some fn) (ok : fnOK P fids drawOK f fn = true)
    (hp : f.ps.all flatTy = true) (hr : f.rs.all flatTy = true) : (Callee.pure f.ps f.rs (fun x => evPure calls f x [])).Sound P g := by
  intro ρ H w t r vs hR hv hev
  refine Calls.mono (body_calls hCO hD hg ok (R.empty w) (flats_rel hp hv) (tell := fun r _ => some r) hev) ?_
  rintro en w' ⟨v, ρ', H1, y, rfl, h1, h2, h3, h4⟩
  cases h1
  have hsame : ∀ j, j < w.heap.size → w'.heap[j]? = w.heap[j]? := fun j hj => h4.frame j hj (fun _ _ h => by cases h)
  exact ⟨v, rfl, flat_res hr h2, hR.world hsame, Rho.le_refl _, Nat.le_refl _, fun b pl h h' => by simp [h] at h', fun _ _ h => h, h4.size, h4.os, h4.tape, h4.output, fun j hj _ => hsame j hj, fun b pl es dc h1 h2 => ⟨es, dc, h2, MapStep.same (hR.mp b pl es dc h1 h2) (hsame _ (hR.mp b pl es dc h1 h2).lt)⟩⟩

theorem R.back {ρ ρ' : Rho} {H H' : Heap} {w w' : World} (hR : R ρ H w) (hR' : R ρ' H' w') (hx : Ext ρ H w ρ' H' w') (ht : H'.take H.length = H) : R ρ H w' := by
  have hget : ∀ (b : Nat) (x : Blk), H[b]? = some x → H'[b]? = some x := by
    intro b x h
    have hb : b < H.length := (List.getElem?_eq_some_iff.1 h).1
    rw [← ht, List.getElem?_take_of_lt hb] at h
    exact h
  refine ⟨hR.dom, ?_, hR.sep, ?_, hR.sepm⟩
  rotate_left
  · intro b pl es ck h1 h2
    obtain ⟨⟨ents, l, c, g1, g2, g3, g4⟩, a1⟩ := hR'.mp b pl es ck (hx.le _ _ h1) (hget _ _ h2)
    obtain ⟨⟨_, _, _, _, _, q3, _⟩, _⟩ := hR.mp b pl es ck h1 h2
    exact ⟨⟨ents, l, c, g1, g2, q3.back hx.le g3, g4⟩, a1⟩
  intro b pl acs bk h1 h2
  obtain ⟨⟨vs, el, fr, g1, g2, g3, g4⟩, a1, a2, a3, a4⟩ := hR'.blk b pl acs bk (hx.le _ _ h1) (hget _ _ h2)
  obtain ⟨⟨us, _, _, _, _, q3, _⟩, _⟩ := hR.blk b pl acs bk h1 h2
  exact ⟨⟨vs, el, fr, g1, g2, q3.back hx.le g3, g4⟩, a1, a2, a3, a4⟩

theorem quiet_sound (hCO : CallsOK P calls fids) (hD : DrawSound P calls drawOK) {f : AFun} {g : FuncId} {fn : Func} (hg : P.funcs[g]? = some fn) (ok : fnOK P fids drawOK f fn = true)
    (hr : f.rs.all flatTy = true) : (Callee.quiet f.ps f.rs (evQuiet calls f)).Sound P g := by
  intro ρ H w t r vs hR hv hev
  refine Calls.mono (body_calls hCO hD hg ok hR hv (tell := fun r H' => if H'.take H.length = H then some r else none) hev) ?_
  rintro en w' ⟨v, ρ', H1, y, rfl, h1, h2, h3, h4⟩
  split at h1
  · rename_i ht
    cases h1
    have hR2 := hR.back h3 h4 ht
    refine ⟨v, rfl, flat_res hr h2, hR2, Rho.le_refl _, Nat.le_refl _, fun b pl h h' => by simp [h] at h', fun _ _ h => h, h4.size, h4.os, h4.tape, h4.output, h4.frame, fun b pl es dc h1 h2 => ?_⟩
    obtain ⟨es', dc', q1, q2⟩ := h4.maps b pl es dc h1 h2
    have hb : b < H.length := (List.getElem?_eq_some_iff.1 h2).1
    have h2' := h2
    rw [← ht, List.getElem?_take_of_lt hb, q1] at h2'
    cases h2'
    exact ⟨_, _, h2, q2⟩
  · cases h1

end
end Ev
namespace Ev
open Go

def Opd.slots : Opd → List Nat
  | .t n => [n]
  | .c _ => []
def oslots : Option Opd → List Nat
  | none => []
  | some x => x.slots
def partSlots (ps : List (Nat × Nat × Opd)) : List Nat := ps.flatMap fun p => p.2.2.slots
def lslots (xs : List Opd) : List Nat := xs.flatMap Opd.slots
def AOp.slots : AOp → List Nat
  | .mv x | .box x | .load _ x | .nilc x | .isnil _ x | .isnils _ x | .un _ x | .conv _ x | .cstr x | .b2s x | .s2b x | .addr _ x | .field _ _ x | .ext x _ | .len x | .lens x | .clr _ x | .mlen x | .isnilm _ x => x.slots
  | .pick c a b => c.slots ++ a.slots ++ b.slots
  | .new _ | .mkm | .any => []
  | .build _ ps => partSlots ps
  | .bslice _ _ _ ps => partSlots ps
  | .store _ x y | .bin _ x y | .eqb _ x y | .eqagg _ _ x y | .mk _ _ _ x y | .idxa _ x y | .idxarr _ _ x y | .index x y | .app _ _ x y | .cpy _ x y | .mget _ _ _ x y | .mdel x y => x.slots ++ y.slots
  | .mset x y z => x.slots ++ y.slots ++ z.slots
  | .slc _ x lo hi mx => x.slots ++ (oslots lo ++ (oslots hi ++ oslots mx))
  | .slstr x lo hi => x.slots ++ (oslots lo ++ oslots hi)
  | .call _ xs | .min xs | .max xs | .mkf _ xs => lslots xs
  | .callv _ x _ xs => x.slots ++ lslots xs
  | .callc _ _ x _ xs => x.slots ++ lslots xs

section
variable {calls : Nat → Option Callee} {e e' : Env}

theorem Opd.ev_congr {x : Opd} (h : ∀ t ∈ x.slots, e.get t = e'.get t) : x.ev e = x.ev e' := by
  cases x with
  | t n => exact h n (by simp [Opd.slots])
  | c w => rfl
theorem parts_congr : ∀ {ps : List (Nat × Nat × Opd)} {cs : List C}, (∀ t ∈ partSlots ps, e.get t = e'.get t) → fillParts e cs ps = fillParts e' cs ps
  | [], _, _ => rfl
  | (o, n, x) :: r, cs, h => by
    have hx : x.ev e = x.ev e' := Opd.ev_congr fun t ht => h t (by simp [partSlots]; exact .inl ht)
    have hr : ∀ cs, fillParts e cs r = fillParts e' cs r := fun cs => parts_congr fun t ht => h t (by simp only [partSlots, List.flatMap_cons, List.mem_append]; exact .inr ht)
    simp only [fillParts, hx, hr]
theorem list_congr : ∀ {xs : List Opd}, (∀ t ∈ lslots xs, e.get t = e'.get t) → xs.map (Opd.ev e) = xs.map (Opd.ev e')
  | [], _ => rfl
  | x :: r, h => by
    rw [List.map_cons, List.map_cons, Opd.ev_congr (x := x) fun t ht => h t (by simp [lslots]; exact .inl ht), list_congr (xs := r) fun t ht => h t (by simp only [lslots, List.flatMap_cons, List.mem_append]; exact .inr ht)]
theorem optI_congr {R0 : Type} {o : Option Opd} {d : Int} {k : Int → Option R0} (h : ∀ t ∈ oslots o, e.get t = e'.get t) : optI e o d k = optI e' o d k := by
  cases o with
  | none => rfl
  | some x => simp only [optI, Opd.ev_congr (x := x) h]

theorem evOp_congr {R0 : Type} {op : AOp} (h : ∀ t ∈ op.slots, e.get t = e'.get t) (H : Heap) (k : V → Heap → Option R0) : evOp calls op e H k = evOp calls op e' H k := by
  cases op <;> simp only [AOp.slots, List.mem_append] at h <;> simp only [evOp]
  case mv x => rw [Opd.ev_congr h]
  case pick c a b => rw [Opd.ev_congr (x := c) fun t ht => h t (.inl (.inl ht)), Opd.ev_congr (x := a) fun t ht => h t (.inl (.inr ht)), Opd.ev_congr (x := b) fun t ht => h t (.inr ht)]
  case build z ps => rw [parts_congr h]
  case bslice es l z ps => rw [parts_congr h]
  case call f xs => rw [list_congr h]
  case callv g x f xs => rw [Opd.ev_congr (x := x) fun t ht => h t (.inl ht), list_congr (xs := xs) fun t ht => h t (.inr ht)]
  case mset x y z => rw [Opd.ev_congr (x := x) fun t ht => h t (.inl (.inl ht)), Opd.ev_congr (x := y) fun t ht => h t (.inl (.inr ht)), Opd.ev_congr (x := z) fun t ht => h t (.inr ht)]
  case mkf g xs => rw [list_congr h]
  case callc g n x f xs => rw [Opd.ev_congr (x := x) fun t ht => h t (.inl ht), list_congr (xs := xs) fun t ht => h t (.inr ht)]
  case min xs => rw [list_congr h]
  case max xs => rw [list_congr h]
  case slc es x lo hi mx =>
    rw [Opd.ev_congr (x := x) fun t ht => h t (.inl ht)]
    simp only [optI_congr (o := lo) fun t ht => h t (.inr (.inl ht)), optI_congr (o := hi) fun t ht => h t (.inr (.inr (.inl ht))), optI_congr (o := mx) fun t ht => h t (.inr (.inr (.inr ht)))]
  case slstr x lo hi =>
    rw [Opd.ev_congr (x := x) fun t ht => h t (.inl ht)]
    simp only [optI_congr (o := lo) fun t ht => h t (.inr (.inl ht)), optI_congr (o := hi) fun t ht => h t (.inr (.inr ht))]
  all_goals first
    | rfl
    | (rename_i x; rw [Opd.ev_congr h]; done)
    | (rename_i x y; rw [Opd.ev_congr (x := x) fun t ht => h t (.inl ht), Opd.ev_congr (x := y) fun t ht => h t (.inr ht)]; done)
    | (rename_i x y; simp only [Opd.ev_congr (x := x) fun t ht => h t (.inl ht), Opd.ev_congr (x := y) fun t ht => h t (.inr ht)]; done)
    | (rename_i x y; simp only [Opd.ev_congr (x := x) h]; done)

theorem init_congr {R0 : Type} {op : AOp} (h : ∀ t ∈ op.slots, e.get t = e'.get t) (k : Blk → Option R0) : initBlk e op k = initBlk e' op k := by
  cases op <;> simp only [AOp.slots, List.mem_append] at h <;> simp only [initBlk]
  case box x => rw [Opd.ev_congr h]
  case bslice es l z ps => rw [parts_congr h]
  case mk es b z l c => rw [Opd.ev_congr (x := c) fun t ht => h t (.inr ht)]

/-! What follows stands apart. -/
def ev1 (calls : Nat → Option Callee) (op : AOp) (e : Env) (H : Heap) : Option (V × Heap) := evOp calls op e H fun v H' => some (v, H')

theorem int?_nat {R0 R1 : Type} (v : V) (k : Int → Option R0) (f : R0 → Option R1) : (v.int? k).bind f = v.int? fun n => (k n).bind f := by
  unfold V.int?; split <;> rfl
theorem optI_nat {R0 R1 : Type} (o : Option Opd) (d : Int) (k : Int → Option R0) (f : R0 → Option R1) : (optI e o d k).bind f = optI e o d fun n => (k n).bind f := by
  unfold optI; split
  · rfl
  · exact int?_nat _ _ _
theorem cond_nat {R0 R1 : Type} (b : Bool) (x y : Option R0) (f : R0 → Option R1) : (bif b then x else y).bind f = bif b then x.bind f else y.bind f := by cases b <;> rfl
theorem binI_nat {R0 R1 : Type} (op : BinOp) (kd : IntKind) (a b : Int) (H : Heap) (k : V → Heap → Option R0) (f : R0 → Option R1) : (binI op kd a b H k).bind f = binI op kd a b H fun v H => (k v H).bind f := by
  cases op <;> simp only [binI, cond_nat] <;> rfl
theorem binS_nat {R0 R1 : Type} (op : BinOp) (a b : Bytes) (H : Heap) (k : V → Heap → Option R0) (f : R0 → Option R1) : (binS op a b H k).bind f = binS op a b H fun v H => (k v H).bind f := by
  cases op <;> simp only [binS, Option.bind_assoc] <;> rfl
theorem shiftI_nat {R0 R1 : Type} (op : BinOp) (kd : IntKind) (a b : Int) (H : Heap) (k : V → Heap → Option R0) (f : R0 → Option R1) : (shiftI op kd a b H k).bind f = shiftI op kd a b H fun v H => (k v H).bind f := by
  cases op <;> simp only [shiftI, cond_nat] <;> rfl
theorem binV_nat {R0 R1 : Type} (op : BinOp) (x y : V) (H : Heap) (k : V → Heap → Option R0) (f : R0 → Option R1) : (binV op x y H k).bind f = binV op x y H fun v H => (k v H).bind f := by
  unfold binV; split
  · simp only [cond_nat, shiftI_nat, binI_nat]; rfl
  · exact binS_nat _ _ _ _ _ _
  · rfl
theorem unV_nat {R0 R1 : Type} (op : UnOp) (x : V) (H : Heap) (k : V → Heap → Option R0) (f : R0 → Option R1) : (unV op x H k).bind f = unV op x H fun v H => (k v H).bind f := by
  unfold unV; split <;> rfl
theorem minI_nat {R0 R1 : Type} : ∀ (l : List V) (a : Int) (k : Int → Option R0) (f : R0 → Option R1), (minI a l k).bind f = minI a l fun n => (k n).bind f
  | [], a, k, f => rfl
  | v :: r, a, k, f => by
    match v with
    | .w (.one (.int kd b)) => exact minI_nat r _ k f
    | .und => rfl
    | .off => rfl
    | .tup _ => rfl
    | .w (.agg _) => rfl
    | .w (.one (.bool _)) => rfl
    | .w (.one (.str _)) => rfl
    | .w (.one (.ptr _)) => rfl
    | .w (.one (.sl _ _)) => rfl
    | .w (.one (.mp _)) => rfl
    | .w (.one (.fn _)) => rfl
    | .w (.one (.clo _ _)) => rfl
theorem maxI_nat {R0 R1 : Type} : ∀ (l : List V) (a : Int) (k : Int → Option R0) (f : R0 → Option R1), (maxI a l k).bind f = maxI a l fun n => (k n).bind f
  | [], a, k, f => rfl
  | v :: r, a, k, f => by
    match v with
    | .w (.one (.int kd b)) => exact maxI_nat r _ k f
    | .und => rfl
    | .off => rfl
    | .tup _ => rfl
    | .w (.agg _) => rfl
    | .w (.one (.bool _)) => rfl
    | .w (.one (.str _)) => rfl
    | .w (.one (.ptr _)) => rfl
    | .w (.one (.sl _ _)) => rfl
    | .w (.one (.mp _)) => rfl
    | .w (.one (.fn _)) => rfl
    | .w (.one (.clo _ _)) => rfl

set_option linter.unusedSimpArgs false in
theorem evOp_nat {R0 R1 : Type} (op : AOp) (H : Heap) (k : V → Heap → Option R0) (f : R0 → Option R1) : (evOp calls op e H k).bind f = evOp calls op e H fun v H => (k v H).bind f := by
  cases op <;> simp only [evOp, Option.bind_assoc, int?_nat, binV_nat, unV_nat]
  case field ty off x =>
    split
    · cases ty <;> first | rfl | (simp only [Option.bind_assoc]; done) | (simp only [Option.bind_assoc]; rfl)
    · rfl
  case call g xs =>
    split <;> first | rfl | (simp only [Option.bind_assoc]; done) | (simp only [Option.bind_assoc]; rfl)
  case callv g x f xs =>
    split
    · rename_i g' _
      cases decide (g' = g) with
      | false => rfl
      | true =>
        simp only [cond_true, evCall]
        split <;> first | rfl | (simp only [Option.bind_assoc]; done) | (simp only [Option.bind_assoc]; rfl)
    · rfl
  case callc g n x f xs =>
    split
    · simp only [Option.bind_assoc]
      congr 1
      funext t
      simp only [evCall]
      split <;> first | rfl | (simp only [Option.bind_assoc]; done) | (simp only [Option.bind_assoc]; rfl)
    · rfl
  all_goals first
    | rfl
    | (split <;> first | rfl | (simp only [Option.bind_assoc, int?_nat, optI_nat, cond_nat, minI_nat, maxI_nat]; done) | (simp only [Option.bind_assoc, int?_nat, optI_nat, cond_nat, minI_nat, maxI_nat]; rfl))

theorem evOp_ev1 {R0 : Type} (op : AOp) (H : Heap) (k : V → Heap → Option R0) : evOp calls op e H k = (ev1 calls op e H).bind fun p => k p.1 p.2 := by
  unfold ev1
  rw [evOp_nat]
  rfl

theorem init_nat {R0 R1 : Type} (op : AOp) (k : Blk → Option R0) (f : R0 → Option R1) : (initBlk e op k).bind f = initBlk e op fun cs => (k cs).bind f := by
  cases op <;> simp only [initBlk, Option.bind_assoc, int?_nat] <;> first | rfl | (split <;> rfl)

end
end Ev
namespace Ev
open Go

inductive Kl where
  | P
  | R
  | A
  | E
  deriving DecidableEq

def AOp.kl (calls : Nat → Option Callee) : AOp → Kl
  | .load _ _ | .b2s _ | .mget _ _ _ _ _ | .mlen _ => .R
  | .new _ | .box _ | .bslice _ _ _ _ | .mk _ _ _ _ _ | .mkm => .A
  | .store _ _ _ | .app _ _ _ _ | .cpy _ _ _ | .clr _ _ | .s2b _ | .callv _ _ _ _ | .callc _ _ _ _ _ | .mset _ _ _ | .mdel _ _ => .E
  | .call f _ => match calls f with
    | some (.pure _ _ _) => .P
    | _ => .E
  | _ => .P

def blkOf : V → Option Nat
  | .w (.one (.ptr (some a))) => some a.1
  | .w (.one (.sl _ ⟨some a, _, _⟩)) => some a.1
  | .w (.one (.mp (some b))) => some b
  | _ => none

section
variable {calls : Nat → Option Callee} {e : Env} {H H' : Heap} {v : V} {op : AOp}

theorem binI_P {R0 : Type} (op : BinOp) (kd : IntKind) (a b : Int) (H G : Heap) (k : V → Heap → Option R0) : binI op kd a b H k = binI op kd a b G fun v _ => k v H := by cases op <;> rfl
theorem binS_P {R0 : Type} (op : BinOp) (a b : Bytes) (H G : Heap) (k : V → Heap → Option R0) : binS op a b H k = binS op a b G fun v _ => k v H := by cases op <;> rfl
theorem shiftI_P {R0 : Type} (op : BinOp) (kd : IntKind) (a b : Int) (H G : Heap) (k : V → Heap → Option R0) : shiftI op kd a b H k = shiftI op kd a b G fun v _ => k v H := by cases op <;> rfl
theorem binV_P {R0 : Type} (op : BinOp) (x y : V) (H G : Heap) (k : V → Heap → Option R0) : binV op x y H k = binV op x y G fun v _ => k v H := by
  unfold binV
  split
  · rw [shiftI_P op _ _ _ H G, binI_P op _ _ _ H G]
  · exact binS_P _ _ _ _ _ _
  · rfl
theorem unV_P {R0 : Type} (op : UnOp) (x : V) (H G : Heap) (k : V → Heap → Option R0) : unV op x H k = unV op x G fun v _ => k v H := by
  unfold unV; split <;> rfl

theorem evOp_P {R0 : Type} (h : op.kl calls = .P) (H G : Heap) (k : V → Heap → Option R0) : evOp calls op e H k = evOp calls op e G fun v _ => k v H := by
  cases op <;> first | (simp [AOp.kl] at h; done) | skip
  case bin op x y => exact binV_P _ _ _ _ _ _
  case un op x => exact unV_P _ _ H G k
  case call f xs =>
    simp only [AOp.kl] at h
    simp only [evOp]
    cases hc : calls f with
    | none => rfl
    | some c =>
      rw [hc] at h
      cases c with
      | pure ps rs g => rfl
      | quiet ps rs g => cases h
      | full ps rs g => cases h
  all_goals rfl

theorem ev1_P (h : op.kl calls = .P) (hev : ev1 calls op e H = some (v, H')) : H' = H ∧ ∀ G, ev1 calls op e G = some (v, G) := by
  unfold ev1 at *
  have key : ∀ G, evOp calls op e G (fun v H' => some (v, H')) = (evOp calls op e H fun v H' => some (v, H')).map fun p => (p.1, G) := by
    intro G
    rw [evOp_P h G H]
    have := evOp_nat (calls := calls) (e := e) op H (fun v H' => some (v, H')) fun p => some (p.1, G)
    rw [Option.map_eq_bind]
    exact this.symm
  have h1 := key H
  rw [hev] at h1
  simp only [Option.map_some, Option.some.injEq, Prod.mk.injEq, true_and] at h1
  exact ⟨h1, fun G => by rw [key G, hev]; rfl⟩

theorem cell_grow {H : Heap} {b o : Nat} {c : C} (bs : Heap) (h : H.cell b o = some c) : Heap.cell (H ++ bs) b o = some c := by
  unfold Heap.cell at *
  split at h
  · rename_i cs bk hb
    have hlt : b < H.length := (List.getElem?_eq_some_iff.1 hb).1
    rw [List.getElem?_append_left hlt, hb]
    exact h
  · cases h
theorem row_grow {H : Heap} {b o n : Nat} {c : List C} (bs : Heap) (h : H.row b o n = some c) : Heap.row (H ++ bs) b o n = some c := by
  unfold Heap.row at *
  split at h
  · rename_i cs bk hb
    have hlt : b < H.length := (List.getElem?_eq_some_iff.1 hb).1
    rw [List.getElem?_append_left hlt, hb]
    exact h
  · cases h
theorem rd_grow {H : Heap} {ty : Ty} {b o : Nat} {v : ty.T} (bs : Heap) (h : rd H ty b o = some v) : rd (H ++ bs) ty b o = some v := by
  cases ty with
  | one c =>
    obtain ⟨x, h1, h2⟩ := Option.bind_some_inv h
    show (Heap.cell (H ++ bs) b o).bind c.un = some v
    rw [cell_grow bs h1]; exact h2
  | agg cs =>
    obtain ⟨x, h1, h2⟩ := Option.bind_some_inv h
    show (Heap.row (H ++ bs) b o cs.length).bind (Tup.un cs) = some v
    rw [row_grow bs h1]; exact h2
theorem slRow_grow {H : Heap} {es : Nat} {s : Sl} {cs : List C} (bs : Heap) (h : slRow H es s = some cs) : slRow (H ++ bs) es s = some cs := by
  unfold slRow at *
  split at h
  · exact h
  · exact row_grow bs h

theorem mpAt_grow {H : Heap} {b : Nat} {p : MEs × Nat} (bs : Heap) (h : H.mpAt b = some p) : Heap.mpAt (H ++ bs) b = some p := by
  have hb := mpAt_some h
  unfold Heap.mpAt
  rw [List.getElem?_append_left (List.getElem?_eq_some_iff.1 hb).1, hb]

theorem ev1_R (h : op.kl calls = .R) (hev : ev1 calls op e H = some (v, H')) : H' = H ∧ ∀ bs, ev1 calls op e (H ++ bs) = some (v, H ++ bs) := by
  unfold ev1 at *
  have nope : ∀ {f xs}, op = .call f xs → False := by
    rintro f xs rfl
    simp only [AOp.kl] at h
    split at h <;> cases h
  cases op <;> first | (cases h; done) | skip
  case load ty x =>
    simp only [evOp] at *
    split at hev
    · rename_i p hp
      obtain ⟨b, rfl, h2⟩ := Option.bind_some_inv hev
      obtain ⟨u, h3, h4⟩ := Option.bind_some_inv h2
      cases h4
      refine ⟨rfl, fun bs => ?_⟩
      simp only [Option.bind_some, rd_grow bs h3]
    · cases hev
  case b2s x =>
    simp only [evOp] at *
    split at hev
    · rename_i es s hp
      obtain ⟨hb, h2⟩ := cond_some_inv hev
      obtain ⟨u, h3, h4⟩ := Option.bind_some_inv h2
      cases h4
      refine ⟨rfl, fun bs => ?_⟩
      unfold strOf at *
      obtain ⟨cs, h5, h6⟩ := Option.bind_some_inv h3
      rw [hb, slRow_grow bs h5]
      simp only [Option.bind_some, h6, cond_true]
    · cases hev
  case mget ty z is m i =>
    simp only [evOp] at *
    split at hev
    · rename_i mm n e1 e2
      obtain ⟨p, h1, h2⟩ := Option.bind_some_inv hev
      have key : ∀ bs, mget (H ++ bs) ty z mm n = some p := by
        intro bs
        unfold mget at *
        obtain ⟨oo, h3, h4⟩ := Option.bind_some_inv h1
        have : mgetW (H ++ bs) mm n = some oo := by
          unfold mgetW at *
          cases mm with
          | none => exact h3
          | some b =>
            obtain ⟨q, h5, h6⟩ := Option.bind_some_inv h3
            simp only [mpAt_grow bs h5]
            exact h6
        rw [this]
        exact h4
      have hH : H' = H := by cases is <;> (cases h2; rfl)
      subst hH
      refine ⟨rfl, fun bs => ?_⟩
      rw [key bs, Option.bind_some]
      cases is <;> (cases h2; rfl)
    · cases hev
  case mlen m =>
    simp only [evOp] at *
    split at hev
    · rename_i mm e1
      obtain ⟨n, h1, h2⟩ := Option.bind_some_inv hev
      cases h2
      refine ⟨rfl, fun bs => ?_⟩
      unfold mlen at *
      cases mm with
      | none => cases h1; rfl
      | some b =>
        obtain ⟨q, h5, h6⟩ := Option.bind_some_inv h1
        simp only [mpAt_grow bs h5]
        cases h6
        rfl
    · cases hev
  case call f xs => exact (nope rfl).elim

/-- A block that is made. -/
def Made (x : Blk) : Prop := (∃ cs, x = .cells cs .exact) ∨ x = .mp [] 0

theorem ev1_A (h : op.kl calls = .A) (hev : ev1 calls op e H = some (v, H')) : ∃ x, initBlk e op some = some x ∧ H' = H ++ [x] ∧ blkOf v = some H.length ∧ Made x := by
  unfold ev1 at *
  have nope : ∀ {f xs}, op = .call f xs → False := by
    rintro f xs rfl
    simp only [AOp.kl] at h
    split at h <;> cases h
  cases op <;> first | (cases h; done) | skip
  case new z => cases hev; exact ⟨_, rfl, rfl, rfl, .inl ⟨_, rfl⟩⟩
  case mkm => cases hev; exact ⟨_, rfl, rfl, rfl, .inr rfl⟩
  case box x =>
    simp only [evOp, initBlk] at *
    split at hev
    · rename_i c hc; cases hev; exact ⟨_, rfl, rfl, rfl, .inl ⟨_, rfl⟩⟩
    · rename_i cs hc; cases hev; exact ⟨_, rfl, rfl, rfl, .inl ⟨_, rfl⟩⟩
    · cases hev
  case bslice es l z ps =>
    simp only [evOp, initBlk] at *
    obtain ⟨cs, h1, h2⟩ := Option.bind_some_inv hev
    cases h2
    exact ⟨_, by rw [h1]; rfl, rfl, rfl, .inl ⟨_, rfl⟩⟩
  case mk es b z l c =>
    simp only [evOp, initBlk] at *
    obtain ⟨k1, l, e1, hev1⟩ := int?_some hev
    obtain ⟨k2, c, e2, hev2⟩ := int?_some hev1
    obtain ⟨p, h1, h2⟩ := Option.bind_some_inv hev2
    unfold mkS at h1
    obtain ⟨h3, h4⟩ := cond_some_inv h1
    cases h4
    cases h2
    exact ⟨_, by rw [e2]; rfl, rfl, rfl, .inl ⟨_, rfl⟩⟩
  case call f xs => exact (nope rfl).elim
end

section
variable {P : Program} {o : Oper} {a : Act} {w : World} {ρ : Rho} {H : Heap} {e : Env} {calls : Nat → Option Callee} {fids : Nat → Option FuncId} {v : V} {cs : List C} {op : AOp}

/-- What the machine does where a block is made. -/
theorem alloc_spec_c (he : EnvRel ρ e a) (hk : op.kl calls = .A) (ok : opOK P fids op o.op = true) (hev : ev1 calls op e H = some (v, H ++ [.cells cs .exact])) (w : World) :
    ∃ (vs : Array Value) (el : TypeId) (v' : Value), (execOp a.eval o).run P w = .ok (.value v') (w.alloc (.cells vs el)) ∧ CsRel ρ cs vs.toList ∧
      ∀ ρ' : Rho, ρ' H.length = some ⟨w.heap.size, 0, cs.length, cs.length, false⟩ → VRel ρ' v v' := by
  have nope : ∀ {f xs}, op = .call f xs → False := by
    rintro f xs rfl
    simp only [AOp.kl] at hk
    split at hk <;> cases hk
  have hcs : ∀ {cs' : List C}, H ++ [Blk.cells cs' .exact] = H ++ [Blk.cells cs .exact] → cs' = cs := by
    intro cs' h
    have := List.append_cancel_left h
    cases this; rfl
  have var : ∀ {v' : Value} {t : TypeId}, v = .w (.one (.ptr (some (H.length, 0)))) → CsRel ρ cs v'.cells.toList →
      (execOp a.eval o).run P w = .ok (.value (.pointer (some ⟨w.heap.size, 0, none⟩))) (w.alloc (.cells v'.cells t)) →
      ∃ (vs : Array Value) (el : TypeId) (v' : Value), (execOp a.eval o).run P w = .ok (.value v') (w.alloc (.cells vs el)) ∧ CsRel ρ cs vs.toList ∧
      ∀ ρ' : Rho, ρ' H.length = some ⟨w.heap.size, 0, cs.length, cs.length, false⟩ → VRel ρ' v v' := by
    intro v' t hv hc hx
    subst hv
    exact ⟨_, _, _, hx, hc, fun ρ' hρ => (⟨_, hρ, rfl⟩ : CRel ρ' (.ptr (some (H.length, 0))) _)⟩
  unfold ev1 at hev
  cases op <;> first | (cases hk; done) | skip
  case new z =>
    cases ho : o.op <;> rw [ho] at ok <;> simp only [opOK] at ok <;> try contradiction
    rename_i t
    simp only [evOp, Option.some.injEq, Prod.mk.injEq] at hev
    have := hcs hev.2
    subst this
    obtain ⟨u, h1, h2⟩ := run_zero (P := P) (w := w) ok
    exact var (t := t) hev.1.symm (h2 ρ) (by simp [execOp, ho, Instr.alloc, h1, Result.andThen, newVar, newRow])
  case box x =>
    cases ho : o.op <;> rw [ho] at ok <;> simp only [opOK] at ok <;> try contradiction
    rename_i t y
    have h1 := opd_rel he ok
    have main : ∀ u : W, x.ev e = .w u → v = .w (.one (.ptr (some (H.length, 0)))) → u.cs = cs → ∃ (vs : Array Value) (el : TypeId) (v' : Value), (execOp a.eval o).run P w = .ok (.value v') (w.alloc (.cells vs el)) ∧ CsRel ρ cs vs.toList ∧
      ∀ ρ' : Rho, ρ' H.length = some ⟨w.heap.size, 0, cs.length, cs.length, false⟩ → VRel ρ' v v' := by
      intro u e1 hv hu
      rw [e1] at h1
      have := WRel.cs (x := u) (v := a.eval y) h1
      rw [hu] at this
      exact var (v' := a.eval y) (t := t) hv this (by simp [execOp, ho, Instr.box, Result.andThen, newVar, newRow])
    simp only [evOp] at hev
    split at hev
    · rename_i c e1
      simp only [Option.some.injEq, Prod.mk.injEq] at hev
      exact main (.one c) e1 hev.1.symm (hcs hev.2)
    · rename_i c e1
      simp only [Option.some.injEq, Prod.mk.injEq] at hev
      exact main (.agg c) e1 hev.1.symm (hcs hev.2)
    · cases hev
  case bslice es len z ps =>
    simp only [evOp] at hev
    obtain ⟨cs', h1, hk⟩ := Option.bind_some_inv hev
    simp only [Option.some.injEq, Prod.mk.injEq] at hk
    obtain ⟨hv, hcc⟩ := hk
    have := hcs hcc
    subst this
    subst hv
    cases ho : o.op <;> rw [ho] at ok <;> simp only [opOK] at ok <;> try contradiction
    rename_i t len' parts
    split at ok
    · rename_i el hel
      have hu := elem_spec hel
      simp only [Bool.and_eq_true, decide_eq_true_eq] at ok
      obtain ⟨⟨⟨⟨⟨o1, rfl⟩, o3⟩, o4⟩, o5⟩, o6⟩ := ok
      obtain ⟨vs', g1, g2, g3⟩ := bslice_run (P := P) (w := w) he hu o1 o3 o4 o5 o6 h1
      refine ⟨vs', el, .slice (some ⟨w.heap.size, 0, none⟩) len len, ?_, g1, ?_⟩
      · have hexec : execOp a.eval o = (do pure (Next.value (← Instr.buildSlice t len (parts.map fun (i, x) => (i, a.eval x))))) := by simp only [execOp, ho]
        revert hexec g2
        generalize Instr.buildSlice t len (parts.map fun (i, x) => (i, a.eval x)) = s
        intro hrun hexec
        rw [hexec]
        simp only [Sem.run_bind, hrun, Result.andThen, Sem.run_pure]
      · intro ρ' hρ
        have hsl : SlOK ⟨w.heap.size, 0, cs'.length, cs'.length, false⟩ es 0 len len ⟨w.heap.size, 0, none⟩ len :=
          ⟨rfl, rfl, Nat.le_refl _, by rw [g3, Nat.zero_add]; exact Nat.le_refl _, .inl ⟨rfl, Nat.le_refl _, .inl rfl, by rw [g3]; simp⟩⟩
        exact (⟨_, _, _, hρ, rfl, hsl⟩ : CRel ρ' (.sl es ⟨some (H.length, 0), len, len⟩) (.slice (some ⟨w.heap.size, 0, none⟩) len len))
    · cases ok
  case mk es bytes z l c =>
    simp only [evOp] at hev
    cases ho : o.op <;> rw [ho] at ok <;> simp only [opOK] at ok <;> try contradiction
    rename_i t y y'
    simp only [Bool.and_eq_true, decide_eq_true_eq] at ok
    obtain ⟨⟨⟨⟨o1, o2⟩, o3⟩, o4⟩, o5⟩ := ok
    split at o5
    · rename_i el hel
      simp only [Bool.and_eq_true] at o5
      obtain ⟨⟨q1, q2⟩, q3⟩ := o5
      have hu := elem_spec hel
      obtain ⟨k1, l, e1, hev1⟩ := int?_some hev
      obtain ⟨k2, c, e2, hev2⟩ := int?_some hev1
      have b1 := vrel_int (opd_rel he o1) e1
      have b2 := vrel_int (opd_rel he o2) e2
      obtain ⟨p, h1, hk⟩ := Option.bind_some_inv hev2
      unfold mkS at h1
      obtain ⟨h2, h3⟩ := cond_some_inv h1
      obtain ⟨g1, g2, g3, g4⟩ := of_decide_eq_true h2
      cases h3
      simp only [Option.some.injEq, Prod.mk.injEq] at hk
      obtain ⟨hv, hcc⟩ := hk
      have := hcs hcc
      subst this
      subst hv
      unfold sizeIs at q1
      unfold bytesIs at q2
      unfold zeroIs at q3
      cases hi : P.info? el with
      | none => simp [hi] at q1
      | some i =>
        simp only [hi, decide_eq_true_eq, Bool.and_eq_true] at q1 q2 q3
        cases hz : i.zero with
        | none => simp [hz] at q3
        | some zz =>
          simp only [hz] at q3
          have hzr := csOK_rel q3 ρ
          have hzl := hzr.length
          have hzs : zz.cells.size = es := by rw [← o4, hzl]; simp
          have hb : (i.bytes : Int) * c ≤ 281474976710656 := by
            unfold maxRow at g3
            have : ((c.toNat * bytes : Nat) : Int) ≤ 2 ^ 45 := by exact_mod_cast g3
            rw [q2.1]
            have hc : (c.toNat : Int) = c := by omega
            rw [Int.natCast_mul, hc, Int.mul_comm] at this
            omega
          have hrun := run_make (P := P) w t el i zz hu hi hz k1 k2 l c g1 g2 hb (by unfold maxRow at g4; omega)
          have hmade : madeCells zz.cells (c.toNat * i.size) = ((List.replicate c.toNat zz.cells.toList).flatten).toArray := by
            apply Array.ext'
            rw [q1, ← hzs]
            simp only [madeCells]
            rw [range_zero _ _ (by omega)]
          have hfl : ((List.replicate c.toNat zz.cells.toList).flatten).length = c.toNat * es := by
            simp only [List.length_flatten, List.map_replicate, List.sum_replicate_nat, Array.length_toList, hzs]
          have hrl : (rep c.toNat z).length = c.toNat * es := by rw [rep_length, o4]
          refine ⟨madeCells zz.cells (c.toNat * i.size), el, .slice (some ⟨w.heap.size, 0, none⟩) l.toNat c.toNat, ?_, ?_, ?_⟩
          · simp only [execOp, ho, b1, b2, Sem.run_bind, hrun, Result.andThen, Sem.run_pure]
          · rw [hmade]; exact rep_rel hzr _
          · intro ρ' hρ
            have hsl : SlOK ⟨w.heap.size, 0, (rep c.toNat z).length, (rep c.toNat z).length, false⟩ es 0 l.toNat c.toNat ⟨w.heap.size, 0, none⟩ c.toNat :=
              ⟨rfl, rfl, by omega, by simp [hrl], .inl ⟨rfl, Nat.le_refl _, .inl rfl, by simp [hrl]⟩⟩
            exact (⟨_, _, _, hρ, rfl, hsl⟩ : CRel ρ' (.sl es ⟨some (H.length, 0), l.toNat, c.toNat⟩) (.slice (some ⟨w.heap.size, 0, none⟩) l.toNat c.toNat))
    · cases o5
  case mkm =>
    simp only [evOp, Option.some.injEq, Prod.mk.injEq] at hev
    have := List.append_cancel_left hev.2
    cases this
  case call f xs => exact (nope rfl).elim

/-- Where a block that is made comes to lie. -/
def plOf (k : Nat) : Blk → Pl
  | .cells cs _ => ⟨k, 0, cs.length, cs.length, false⟩
  | _ => ⟨k, 0, 0, 0, false⟩
theorem plOf_k (k : Nat) (x : Blk) : (plOf k x).k = k := by cases x <;> rfl
def OfB (ρ : Rho) (x : Blk) (o : Obj) : Prop := (∃ cs vs el, x = .cells cs .exact ∧ o = .cells vs el ∧ CsRel ρ cs vs.toList) ∨ (x = .mp [] 0 ∧ o = .map #[] 0)

theorem alloc_spec {x : Blk} (he : EnvRel ρ e a) (hk : op.kl calls = .A) (ok : opOK P fids op o.op = true) (hev : ev1 calls op e H = some (v, H ++ [x])) (w : World) :
    ∃ (ob : Obj) (v' : Value), (execOp a.eval o).run P w = .ok (.value v') (w.alloc ob) ∧ OfB ρ x ob ∧ ∀ ρ' : Rho, ρ' H.length = some (plOf w.heap.size x) → VRel ρ' v v' := by
  obtain ⟨y, _, h1, _, h3⟩ := ev1_A hk hev
  have := List.append_cancel_left h1
  cases this
  rcases h3 with ⟨cs, rfl⟩ | rfl
  · obtain ⟨vs, el, v', g1, g2, g3⟩ := alloc_spec_c (P := P) he hk ok hev w
    exact ⟨_, v', g1, .inl ⟨cs, vs, el, rfl, rfl, g2⟩, g3⟩
  · cases op <;> first | (cases hk; done) | skip
    case mkm =>
      cases ho : o.op <;> rw [ho] at ok <;> simp only [opOK] at ok <;> try contradiction
      rename_i t res
      cases res with
      | some y => simp at ok
      | none =>
        unfold ev1 at hev
        simp only [evOp, Option.some.injEq, Prod.mk.injEq] at hev
        obtain ⟨rfl, _⟩ := hev
        refine ⟨.map #[] 0, .map (some w.heap.size), by simp [execOp, ho, Instr.makeMap, Result.andThen], .inr ⟨rfl, rfl⟩, fun ρ' hρ => ?_⟩
        exact (⟨_, hρ, rfl⟩ : CRel ρ' (.mp (some H.length)) _)
    case call f xs =>
      simp only [AOp.kl] at hk
      split at hk <;> cases hk
    all_goals
      obtain ⟨_, q1, q2, _, q4⟩ := ev1_A (e := e) (H := H) hk hev
      have := List.append_cancel_left q2
      cases this
      simp only [initBlk] at q1
      first
        | (cases q1; done)
        | (split at q1 <;> cases q1; done)
        | (obtain ⟨_, _, q5⟩ := Option.bind_some_inv q1; cases q5; done)
        | (obtain ⟨_, _, _, q5⟩ := int?_some q1; cases q5; done)

theorem R.enter {ρ : Rho} {H : Heap} {w : World} (r : R ρ H w) {b : Nat} {cs : List C} {vs : Array Value} {el : TypeId} (hb : H[b]? = some (.cells cs .exact)) (hn : ρ b = none) (hc : CsRel ρ cs vs.toList) :
    R (ρ.set b ⟨w.heap.size, 0, cs.length, cs.length, false⟩) H (w.alloc (.cells vs el)) := by
  have hle := Rho.le_set ⟨w.heap.size, 0, cs.length, cs.length, false⟩ hn
  have hl := hc.length
  have hw : (w.alloc (.cells vs el)).heap = w.heap.push (.cells vs el) := rfl
  have hold : ∀ k, k < w.heap.size → (w.alloc (.cells vs el)).heap[k]? = w.heap[k]? := fun k hk => by rw [hw, getElem?_push_lt _ _ hk]
  have hblt : b < H.length := (List.getElem?_eq_some_iff.1 hb).1
  refine ⟨?_, ?_, ?_, ?_, ?_⟩
  rotate_left 3
  · intro x pl es ck h1 h2
    have hne : x ≠ b := fun hh => by subst hh; rw [hb] at h2; cases h2
    rw [Rho.set_other _ _ hne] at h1
    have q := r.mp x pl es ck h1 h2
    exact (q.world (hold _ q.lt)).mono hle
  · intro x y pl pl' es es' ck ck' hne h1 h1' h2 h2'
    have h3 : x ≠ b := fun hh => by subst hh; rw [hb] at h2; cases h2
    have h3' : y ≠ b := fun hh => by subst hh; rw [hb] at h2'; cases h2'
    rw [Rho.set_other _ _ h3] at h1
    rw [Rho.set_other _ _ h3'] at h1'
    exact r.sepm x y pl pl' es es' ck ck' hne h1 h1' h2 h2'
  · intro x pl h
    by_cases e : x = b
    · subst e; exact hblt
    · rw [Rho.set_other _ _ e] at h; exact r.dom _ _ h
  · intro x pl acs bk h1 h2
    by_cases e : x = b
    · subst e
      rw [Rho.set_same] at h1
      cases h1
      rw [hb] at h2
      cases h2
      refine ⟨⟨vs.toList, el, (0, 0), ?_, hl.symm, ?_, fun _ j _ h => absurd h (Nat.not_lt_zero _)⟩, rfl, by simp, fun _ => ⟨rfl, rfl, rfl⟩, fun h => absurd rfl h⟩
      · rw [hw]; simp
      · have ht : vs.toList.take cs.length = vs.toList := by rw [hl, List.take_length]
        simp only [List.drop_zero, ht]; exact hc.mono hle
    · rw [Rho.set_other _ _ e] at h1
      have q := r.blk x pl acs bk h1 h2
      exact (q.world (hold _ q.lt)).mono hle
  · intro x y pl pl' a1 a2 k1 k2 hne h1 h1' h2 h2' hr
    by_cases e : x = b
    · subst e
      rw [Rho.set_same] at h1
      cases h1
      rw [Rho.set_other _ _ (Ne.symm hne)] at h1'
      have := (r.blk _ _ _ _ h1' h2').lt
      simp; omega
    · rw [Rho.set_other _ _ e] at h1
      by_cases e' : y = b
      · subst e'
        rw [Rho.set_same] at h1'
        cases h1'
        have := (r.blk _ _ _ _ h1 h2).lt
        simp; omega
      · rw [Rho.set_other _ _ e'] at h1'
        exact r.sep x y pl pl' a1 a2 k1 k2 hne h1 h1' h2 h2' hr

theorem R.enterM {ρ : Rho} {H : Heap} {w : World} (r : R ρ H w) {b : Nat} (hb : H[b]? = some (.mp [] 0)) (hn : ρ b = none) :
    R (ρ.set b ⟨w.heap.size, 0, 0, 0, false⟩) H (w.alloc (.map #[] 0)) := by
  have hle := Rho.le_set ⟨w.heap.size, 0, 0, 0, false⟩ hn
  have hw : (w.alloc (.map #[] 0)).heap = w.heap.push (.map #[] 0) := rfl
  have hold : ∀ k, k < w.heap.size → (w.alloc (.map #[] 0)).heap[k]? = w.heap[k]? := fun k hk => by rw [hw, getElem?_push_lt _ _ hk]
  have hblt : b < H.length := (List.getElem?_eq_some_iff.1 hb).1
  have hc : ∀ {x : Nat} {cs : List C} {bk : BK}, H[x]? = some (.cells cs bk) → x ≠ b := fun h hh => by subst hh; rw [hb] at h; cases h
  refine ⟨?_, ?_, ?_, ?_, ?_⟩
  · intro x pl h
    by_cases e : x = b
    · subst e; exact hblt
    · rw [Rho.set_other _ _ e] at h; exact r.dom _ _ h
  · intro x pl acs bk h1 h2
    rw [Rho.set_other _ _ (hc h2)] at h1
    have q := r.blk x pl acs bk h1 h2
    exact (q.world (hold _ q.lt)).mono hle
  · intro x y pl pl' a1 a2 k1 k2 hne h1 h1' h2 h2' hr
    rw [Rho.set_other _ _ (hc h2)] at h1
    rw [Rho.set_other _ _ (hc h2')] at h1'
    exact r.sep x y pl pl' a1 a2 k1 k2 hne h1 h1' h2 h2' hr
  · intro x pl es ck h1 h2
    by_cases e : x = b
    · subst e
      rw [Rho.set_same] at h1
      cases h1
      rw [hb] at h2
      cases h2
      exact ⟨⟨#[], [], 0, by rw [hw]; simp, List.Perm.refl _, trivial, List.Pairwise.nil, by simp⟩, List.Pairwise.nil⟩
    · rw [Rho.set_other _ _ e] at h1
      have q := r.mp x pl es ck h1 h2
      exact (q.world (hold _ q.lt)).mono hle
  · intro x y pl pl' es es' ck ck' hne h1 h1' h2 h2'
    by_cases e : x = b
    · subst e
      rw [Rho.set_same] at h1
      cases h1
      rw [Rho.set_other _ _ (Ne.symm hne)] at h1'
      have := (r.mp _ _ _ _ h1' h2').lt
      simp; omega
    · rw [Rho.set_other _ _ e] at h1
      by_cases e' : y = b
      · subst e'
        rw [Rho.set_same] at h1'
        cases h1'
        have := (r.mp _ _ _ _ h1 h2).lt
        simp; omega
      · rw [Rho.set_other _ _ e'] at h1'
        exact r.sepm x y pl pl' es es' ck ck' hne h1 h1' h2 h2'
theorem R.enterB {ρ : Rho} {H : Heap} {w : World} (r : R ρ H w) {b : Nat} {x : Blk} {o : Obj} (hb : H[b]? = some x) (hn : ρ b = none) (ho : OfB ρ x o) :
    R (ρ.set b (plOf w.heap.size x)) H (w.alloc o) := by
  rcases ho with ⟨cs, vs, el, rfl, rfl, h⟩ | ⟨rfl, rfl⟩
  · exact r.enter hb hn h
  · exact r.enterM hb hn

theorem Ext.enter {ρ0 ρ : Rho} {H0 H : Heap} {w0 w : World} (x : Ext ρ0 H0 w0 ρ H w) {b : Nat} {p : Pl} {o : Obj} (hb : H0.length ≤ b) (hn : ρ b = none) (hp : p.k = w.heap.size) :
    Ext ρ0 H0 w0 (ρ.set b p) H (w.alloc o) := by
  have hw : (w.alloc o).heap = w.heap.push o := rfl
  refine ⟨Rho.le_trans x.le (Rho.le_set _ hn), x.len, ?_, x.wr, ?_, x.os, x.tape, x.output, ?_, ?_⟩
  · intro y pl h1 h2
    by_cases e : y = b
    · subst e
      rw [Rho.set_same] at h1
      cases h1
      exact ⟨hb, .inl (by rw [hp]; exact x.size)⟩
    · rw [Rho.set_other _ _ e] at h1
      exact x.new y pl h1 h2
  · rw [hw]; simp; exact Nat.le_succ_of_le x.size
  · intro j hj hno
    rw [hw, getElem?_push_lt _ _ (Nat.lt_of_lt_of_le hj x.size)]
    exact x.frame j hj hno
  · intro c pl es dc h1 h2
    obtain ⟨es', dc', h3, m1, m2⟩ := x.maps c pl es dc h1 h2
    refine ⟨es', dc', h3, m1, fun e => ?_⟩
    obtain ⟨m3, m4⟩ := m2 e
    refine ⟨m3, fun e' => ?_⟩
    obtain ⟨a1, a2, ck, g1, g2, g3⟩ := m4 e'
    refine ⟨a1, a2, ck, g1, ?_, g3⟩
    rw [hw, getElem?_push_lt _ _ (by
      rcases Nat.lt_or_ge pl.k w.heap.size with h | h
      · exact h
      · rw [Array.getElem?_eq_none h] at g2; cases g2)]
    exact g2

theorem R.grow {ρ : Rho} {H : Heap} {w : World} (r : R ρ H w) (bs : Heap) : R ρ (H ++ bs) w := by
  have hget : ∀ {b : Nat} {pl : Pl} {x : Blk}, ρ b = some pl → (H ++ bs)[b]? = some x → H[b]? = some x := by
    intro b pl x h1 h2
    rw [List.getElem?_append_left (r.dom _ _ h1)] at h2
    exact h2
  refine ⟨fun b pl h => by rw [List.length_append]; exact Nat.lt_of_lt_of_le (r.dom b pl h) (Nat.le_add_right _ _), fun b pl acs bk h1 h2 => r.blk b pl acs bk h1 (hget h1 h2),
    fun b b' pl pl' a1 a2 k1 k2 hne h1 h1' h2 h2' hr => r.sep b b' pl pl' a1 a2 k1 k2 hne h1 h1' (hget h1 h2) (hget h1' h2') hr,
    fun b pl es ck h1 h2 => r.mp b pl es ck h1 (hget h1 h2), fun b b' pl pl' es es' ck ck' hne h1 h1' h2 h2' => r.sepm b b' pl pl' es es' ck ck' hne h1 h1' (hget h1 h2) (hget h1' h2')⟩

theorem Ext.grow {ρ0 ρ : Rho} {H0 H : Heap} {w0 w : World} (x : Ext ρ0 H0 w0 ρ H w) (bs : Heap) : Ext ρ0 H0 w0 ρ (H ++ bs) w := by
  refine ⟨x.le, by rw [List.length_append]; exact Nat.le_trans x.len (Nat.le_add_right _ _), x.new, ?_, x.size, x.os, x.tape, x.output, x.frame, fun b pl es dc h1 h2 => ?_⟩
  · exact fun b hb h => x.wr b hb (wrB_left (Nat.lt_of_lt_of_le hb x.len) h)
  · obtain ⟨es', dc', h3, h4⟩ := x.maps b pl es dc h1 h2
    exact ⟨es', dc', by rw [List.getElem?_append_left (List.getElem?_eq_some_iff.1 h3).1]; exact h3, h4⟩

end
end Ev
namespace Ev
open Go

/-! Which operations come before. -/
inductive Reach (ops : Array Oper) : Nat → Nat → Prop where
  | one {i k : Nat} {o : Oper} {e : Edge} : ops[i]? = some o → e ∈ o.after.toList → Region.binds .any e = true → e.on = k → Reach ops i k
  | more {i k : Nat} {o : Oper} {e : Edge} : ops[i]? = some o → e ∈ o.after.toList → Region.binds .any e = true → Reach ops e.on k → Reach ops i k

def mask1 (ms : List Nat) : List Edge → Nat
  | [] => 0
  | e :: r => bif Region.binds .any e then (2 ^ e.on ||| ms.getD e.on 0) ||| mask1 ms r else mask1 ms r
def masks : List Oper → List Nat → List Nat
  | [], ms => ms
  | o :: r, ms => masks r (ms ++ [mask1 ms o.after.toList])

theorem mask1_sound {ops : Array Oper} {ms : List Nat} (hms : ∀ i k, Nat.testBit (ms.getD i 0) k = true → Reach ops i k) : ∀ (es : List Edge) (k : Nat), Nat.testBit (mask1 ms es) k = true →
    ∃ e ∈ es, Region.binds .any e = true ∧ (e.on = k ∨ Reach ops e.on k)
  | [], k, h => by simp [mask1] at h
  | e :: r, k, h => by
    simp only [mask1] at h
    cases hb : Region.binds .any e with
    | true =>
      rw [hb, cond_true, Nat.testBit_or, Nat.testBit_or, Bool.or_eq_true, Bool.or_eq_true] at h
      rcases h with (h | h) | h
      · rw [Nat.testBit_two_pow] at h
        exact ⟨e, by simp, hb, .inl (of_decide_eq_true h)⟩
      · exact ⟨e, by simp, hb, .inr (hms _ _ h)⟩
      · obtain ⟨e', h1, h2⟩ := mask1_sound hms r k h
        exact ⟨e', List.mem_cons_of_mem _ h1, h2⟩
    | false =>
      rw [hb, cond_false] at h
      obtain ⟨e', h1, h2⟩ := mask1_sound hms r k h
      exact ⟨e', List.mem_cons_of_mem _ h1, h2⟩

theorem masks_sound {ops : Array Oper} : ∀ (l : List Oper) (ms : List Nat), ops.toList.drop ms.length = l → (∀ i k, Nat.testBit (ms.getD i 0) k = true → Reach ops i k) →
    ∀ i k, Nat.testBit ((masks l ms).getD i 0) k = true → Reach ops i k
  | [], ms, _, hms => hms
  | o :: r, ms, hl, hms => by
    have ho : ops[ms.length]? = some o := by rw [← Array.getElem?_toList, ← List.head?_drop, hl]; rfl
    refine masks_sound r (ms ++ [mask1 ms o.after.toList]) (by rw [List.length_append, List.length_singleton, ← List.tail_drop, hl]; rfl) ?_
    intro i k h
    rcases Nat.lt_trichotomy i ms.length with hi | hi | hi
    · rw [List.getD_eq_getElem?_getD, List.getElem?_append_left hi, ← List.getD_eq_getElem?_getD] at h
      exact hms i k h
    · subst hi
      rw [List.getD_eq_getElem?_getD, List.getElem?_append_right (Nat.le_refl _), Nat.sub_self] at h
      obtain ⟨e, h1, h2, h3⟩ := mask1_sound hms _ k h
      rcases h3 with h3 | h3
      · exact .one ho h1 h2 h3
      · exact .more ho h1 h2 h3
    · rw [List.getD_eq_getElem?_getD, List.getElem?_eq_none (by simp; omega)] at h
      simp at h

def allFrom (f : Nat → Oper → Bool) : Nat → List Oper → Bool
  | _, [] => true
  | i, o :: r => f i o && allFrom f (i + 1) r
theorem allFrom_spec {f : Nat → Oper → Bool} : ∀ {l : List Oper} {i : Nat}, allFrom f i l = true → ∀ k o, l[k]? = some o → f (i + k) o = true
  | [], _, _, k, o, h => by simp at h
  | x :: r, i, ok, k, o, h => by
    simp only [allFrom, Bool.and_eq_true] at ok
    cases k with
    | zero => simp at h; subst h; exact ok.1
    | succ k =>
      have := allFrom_spec ok.2 k o (by simpa using h)
      rwa [show i + 1 + k = i + (k + 1) by omega] at this
theorem allFrom_ops {f : Nat → Oper → Bool} {ops : Array Oper} (h : allFrom f 0 ops.toList = true) {k : Nat} {o : Oper} (hk : ops[k]? = some o) : f k o = true := by
  have := allFrom_spec h k o (by rw [Array.getElem?_toList]; exact hk)
  rwa [Nat.zero_add] at this

def dstsOK : List Oper → Bool
  | [] => true
  | o :: r => (match o.dst with
    | none => true
    | some d => r.all fun o' => !decide (o'.dst = some d)) && dstsOK r
theorem dstsOK_spec : ∀ {l : List Oper}, dstsOK l = true → ∀ (i j : Nat) (o o' : Oper) (t : Nat), l[i]? = some o → l[j]? = some o' → o.dst = some t → o'.dst = some t → i = j
  | [], _, i, j, o, o', t, h, _, _, _ => by simp at h
  | x :: r, ok, i, j, o, o', t, hi, hj, ht, ht' => by
    simp only [dstsOK, Bool.and_eq_true] at ok
    have no : ∀ (y : Oper), x.dst = some t → y ∈ r → y.dst = some t → False := by
      intro y h1 h2 h3
      rw [h1] at ok
      have := List.all_eq_true.1 ok.1 y h2
      simp [h3] at this
    cases i with
    | zero =>
      cases j with
      | zero => rfl
      | succ j =>
        simp at hi hj
        subst hi
        exact (no o' ht (List.mem_of_getElem? hj) ht').elim
    | succ i =>
      cases j with
      | zero =>
        simp at hi hj
        subst hj
        exact (no o ht' (List.mem_of_getElem? hi) ht).elim
      | succ j =>
        simp at hi hj
        rw [dstsOK_spec ok.2 i j o o' t hi hj ht ht']

/-! Items. -/
def Item.o : Item → AOper
  | .op x | .again x | .still x => x
def itsOps : List Item → List AOper
  | [] => []
  | .op x :: r => x :: itsOps r
  | _ :: r => itsOps r
def AOper.slots (x : AOper) : List Nat := (match x.guard with
  | some (t, _) => [t]
  | none => []) ++ x.op.slots
/-- Is a slot that the operation reads written by one that comes behind it (or by itself)? -/
def anyFrom (f : Nat → Oper → Bool) : Nat → List Oper → Bool
  | _, [] => false
  | i, o :: r => f i o || anyFrom f (i + 1) r
def lateB (ops : List Oper) (ms : List Nat) (x : AOper) (t : Nat) : Bool := anyFrom (fun k o => decide (o.dst = some t) && (Nat.beq k x.idx || Nat.testBit (ms.getD k 0) x.idx)) 0 ops
def laterOK (late : AOper → Nat → Bool) : List Item → Bool
  | [] => true
  | .op x :: r => (x.slots.all fun t => late x t == memB t ((Item.op x).dsts ++ itsDsts r)) && (match x.dst with
    | some d => !memB d (itsDsts r)
    | none => true) && laterOK late r
  | .again x :: r => (x.slots.all fun t => !late x t && !memB t (itsDsts r)) && (match x.dst with
    | some d => !memB d (itsDsts r)
    | none => true) && laterOK late r
  | .still x :: r => (x.slots.all fun t => !late x t && !memB t (itsDsts r)) && (match x.dst with
    | some d => !memB d (itsDsts r)
    | none => true) && laterOK late r

def chk (calls : Nat → Option Callee) (ms : List Nat) : List AOper → List AOper → List Item → Bool
  | _, need, [] => need.isEmpty
  | pend, need, .op x :: r => bif decide (x.op.kl calls = .E) then
      need.isEmpty && ((itsOps r).all fun y => Nat.testBit (ms.getD y.idx 0) x.idx) &&
        chk calls ms (pend.filter fun y => !Nat.testBit (ms.getD x.idx 0) y.idx) ((pend.filter fun y => !Nat.testBit (ms.getD x.idx 0) y.idx).filter fun y => !decide (y.op.kl calls = .P)) r
    else (!decide (x.op.kl calls = .A) || x.dst.isSome) && chk calls ms (pend ++ [x]) need r
  | pend, need, .again x :: r => decide (x.op.kl calls = .R) && chk calls ms pend (need.filter fun y => !decide (y = x)) r
  | pend, need, .still x :: r => decide (x.op.kl calls = .A) && chk calls ms pend (need.filter fun y => !decide (y = x)) r

def nodupB : List Nat → Bool
  | [] => true
  | n :: r => !memB n r && nodupB r
theorem nodupB_spec : ∀ {l : List Nat}, nodupB l = true → l.Nodup
  | [], _ => List.nodup_nil
  | n :: r, h => by
    simp only [nodupB, Bool.and_eq_true, Bool.not_eq_true'] at h
    exact List.nodup_cons.2 ⟨fun hm => (by rw [(memB_iff n r).2 hm] at h; cases h.1), nodupB_spec h.2⟩

def drawOK (P : Program) (calls : Nat → Option Callee) (fids : Nat → Option FuncId) (nt : Nat) (its : List Item) (ops : Array Oper) : Bool :=
  P.follows .mixedOrders &&
  (allFrom (fun i o => o.after.toList.all fun e => !Region.binds .any e || Nat.blt e.on i) 0 ops.toList) &&
  ((itsOps its).all fun x => match ops[x.idx]? with
    | some o => aoperOK P fids nt ops x o
    | none => false) &&
  ((itsOps its).all fun x => x.slots.all fun t => lateB ops.toList (masks ops.toList []) x t || allFrom (fun k o => !decide (o.dst = some t) || Nat.testBit ((masks ops.toList []).getD x.idx 0) k) 0 ops.toList) &&
  dstsOK ops.toList && nodupB ((itsOps its).map AOper.idx) && (allFrom (fun k _ => memB k ((itsOps its).map AOper.idx)) 0 ops.toList) &&
  laterOK (lateB ops.toList (masks ops.toList [])) its && chk calls (masks ops.toList []) [] [] its

def guardSt (e : Env) : Option (Nat × Bool) → Option Bool
  | none => some true
  | some (t, want) => match e.get t with
    | .w (.one (.bool g)) => some (g == want)
    | .off => some false
    | _ => none

def evI1 (calls : Nat → Option Callee) (its : List Item) (e : Env) (H : Heap) : Option (Env × Heap) := evIts calls its e H fun e H => some (e, H)

section
variable {calls : Nat → Option Callee} {e : Env} {H : Heap} {r : Env × Heap}

theorem narrow_get {t : Nat} {v : V} (h : e.get t = v) (s : Nat) : Env.get ((t, v) :: e) s = e.get s := by
  rw [Env.get_cons]; split
  · rename_i hh; subst hh; exact h.symm
  · rfl

theorem evIts_nat {R0 R1 : Type} (f : R0 → Option R1) : ∀ (its : List Item) (e : Env) (H : Heap) (k : Env → Heap → Option R0), (evIts calls its e H k).bind f = evIts calls its e H fun e H => (k e H).bind f
  | [], _, _, _ => rfl
  | .op x :: its, e, H, k => by
    simp only [evIts]
    split
    · rw [evOp_nat]; simp only [evIts_nat f its]
    · split
      · rename_i t want _ _ g _
        cases g <;> cases want <;> simp only [cond_true, cond_false, evOp_nat, evIts_nat f its]
      · exact evIts_nat f its _ _ _
      · rfl
  | .again x :: its, e, H, k => by
    simp only [evIts]
    rw [cond_nat, evIts_nat f its, evOp_nat]
    congr 1
    congr 1
    funext v H'
    split
    · exact evIts_nat f its _ _ _
    · rfl
  | .still x :: its, e, H, k => by
    simp only [evIts]
    rw [cond_nat, evIts_nat f its, init_nat]
    congr 1
    congr 1
    funext cs
    split
    · split
      · exact evIts_nat f its _ _ _
      · rfl
    · rw [Option.bind_assoc]
      congr 1
      funext a
      split
      · exact evIts_nat f its _ _ _
      · rfl
    · rw [Option.bind_assoc]
      congr 1
      funext a
      split
      · exact evIts_nat f its _ _ _
      · rfl
    · rfl

theorem evIts_evI1 {R0 : Type} (its : List Item) (k : Env → Heap → Option R0) : evIts calls its e H k = (evI1 calls its e H).bind fun p => k p.1 p.2 := by
  unfold evI1; rw [evIts_nat]; rfl

theorem op_inv {x : AOper} {its : List Item} (h : evI1 calls (.op x :: its) e H = some r) :
    (guardSt e x.guard = some true ∧ ∃ e1 v H', (∀ t, Env.get e1 t = e.get t) ∧ ev1 calls x.op e1 H = some (v, H') ∧ evI1 calls its (put e1 x.dst v) H' = some r) ∨
    (guardSt e x.guard = some false ∧ ∃ e1, (∀ t, Env.get e1 t = e.get t) ∧ evI1 calls its (put e1 x.dst .off) H = some r) := by
  have on : ∀ e1, (evOp calls x.op e1 H fun v H' => evIts calls its (put e1 x.dst v) H' fun e H => some (e, H)) = some r → ∃ v H', ev1 calls x.op e1 H = some (v, H') ∧ evI1 calls its (put e1 x.dst v) H' = some r := by
    intro e1 h
    rw [evOp_ev1] at h
    obtain ⟨p, h1, h2⟩ := Option.bind_some_inv h
    exact ⟨p.1, p.2, h1, h2⟩
  unfold evI1 at h
  simp only [evIts] at h
  split at h
  · rename_i hg
    obtain ⟨v, H', h1, h2⟩ := on e h
    exact .inl ⟨by rw [hg]; rfl, e, v, H', fun _ => rfl, h1, h2⟩
  · rename_i t want hg
    split at h
    · rename_i g ht
      have hgs : guardSt e x.guard = some (g == want) := by rw [hg]; simp only [guardSt, ht]
      cases g <;> cases want <;> simp only [cond_true, cond_false] at h
      · obtain ⟨v, H', h1, h2⟩ := on _ h
        exact .inl ⟨hgs, _, v, H', narrow_get ht, h1, h2⟩
      · exact .inr ⟨hgs, _, narrow_get ht, h⟩
      · exact .inr ⟨hgs, _, narrow_get ht, h⟩
      · obtain ⟨v, H', h1, h2⟩ := on _ h
        exact .inl ⟨hgs, _, v, H', narrow_get ht, h1, h2⟩
    · rename_i ht
      exact .inr ⟨by rw [hg]; simp only [guardSt, ht], e, fun _ => rfl, h⟩
    · cases h

theorem again_inv {x : AOper} {its : List Item} (h : evI1 calls (.again x :: its) e H = some r) : evI1 calls its e H = some r ∧ (offB e x.guard = true ∨ ∃ H', ev1 calls x.op e H = some (getD e x.dst, H')) := by
  unfold evI1 at *
  simp only [evIts] at h
  cases hb : offB e x.guard with
  | true => rw [hb] at h; exact ⟨h, .inl rfl⟩
  | false =>
    rw [hb, cond_false, evOp_ev1] at h
    obtain ⟨p, h1, h2⟩ := Option.bind_some_inv h
    split at h2
    · rename_i hv; exact ⟨h2, .inr ⟨p.2, by rw [h1, ← hv]⟩⟩
    · cases h2

theorem still_inv {x : AOper} {its : List Item} (h : evI1 calls (.still x :: its) e H = some r) :
    evI1 calls its e H = some r ∧ (offB e x.guard = true ∨ ∃ cs b, initBlk e x.op some = some cs ∧ blkOf (getD e x.dst) = some b ∧ H[b]? = some cs) := by
  unfold evI1 at *
  simp only [evIts] at h
  cases hb : offB e x.guard with
  | true => rw [hb] at h; exact ⟨h, .inl rfl⟩
  | false =>
    rw [hb, cond_false] at h
    have hn := init_nat (e := e) x.op some (fun cs => match getD e x.dst with
      | .w (.one (.ptr (some a))) => if H[a.1]? = some cs then evIts calls its e H (fun e H => some (e, H)) else none
      | .w (.one (.sl _ s)) => s.p.bind fun a => if H[a.1]? = some cs then evIts calls its e H (fun e H => some (e, H)) else none
      | .w (.one (.mp m)) => m.bind fun b => if H[b]? = some cs then evIts calls its e H (fun e H => some (e, H)) else none
      | _ => none)
    rw [show (initBlk e x.op fun cs => (some cs).bind _) = _ from rfl] at hn
    simp only [Option.bind_some] at hn
    replace h := hn.trans h
    obtain ⟨cs, h1, h2⟩ := Option.bind_some_inv h
    split at h2
    · rename_i a ha
      split at h2
      · rename_i hh; exact ⟨h2, .inr ⟨cs, a.1, h1, by rw [ha]; rfl, hh⟩⟩
      · cases h2
    · rename_i es s hs
      obtain ⟨a, h3, h4⟩ := Option.bind_some_inv h2
      split at h4
      · rename_i hh
        obtain ⟨p, len, cap⟩ := s
        simp only at h3
        subst h3
        exact ⟨h4, .inr ⟨cs, a.1, h1, by rw [hs]; rfl, hh⟩⟩
      · cases h4
    · rename_i m hs
      obtain ⟨a, h3, h4⟩ := Option.bind_some_inv h2
      split at h4
      · rename_i hh
        subst h3
        exact ⟨h4, .inr ⟨cs, a, h1, by rw [hs]; rfl, hh⟩⟩
      · cases h4
    · cases h2

theorem put_get_eq {e : Env} {d : Nat} {v : V} : (put e (some d) v).get d = v := by rw [put, Env.get_cons, if_pos rfl]

theorem its_agree {eF : Env} {HF : Heap} : ∀ {its : List Item} {e : Env} {H : Heap}, evI1 calls its e H = some (eF, HF) → ∀ t, t ∉ itsDsts its → eF.get t = e.get t
  | [], e, H, h, t, _ => by cases h; rfl
  | .op x :: its, e, H, h, t, ht => by
    simp only [itsDsts, List.mem_append, not_or] at ht
    have hd : x.dst ≠ some t := by
      intro hh
      exact ht.1 (by simp [Item.dsts, hh])
    rcases op_inv h with ⟨_, e1, v, H', h1, _, h3⟩ | ⟨_, e1, h1, h3⟩
    · rw [its_agree h3 t ht.2, put_get_other hd, h1]
    · rw [its_agree h3 t ht.2, put_get_other hd, h1]
  | .again x :: its, e, H, h, t, ht => its_agree (again_inv h).1 t (fun hh => ht (by simp only [itsDsts, Item.dsts, List.nil_append]; exact hh))
  | .still x :: its, e, H, h, t, ht => its_agree (still_inv h).1 t (fun hh => ht (by simp only [itsDsts, Item.dsts, List.nil_append]; exact hh))

theorem anyFrom_spec {f : Nat → Oper → Bool} : ∀ {l : List Oper} {i : Nat}, anyFrom f i l = true → ∃ k o, l[k]? = some o ∧ f (i + k) o = true
  | [], _, h => by simp [anyFrom] at h
  | x :: r, i, h => by
    simp only [anyFrom, Bool.or_eq_true] at h
    rcases h with h | h
    · exact ⟨0, x, rfl, h⟩
    · obtain ⟨k, o, h1, h2⟩ := anyFrom_spec h
      exact ⟨k + 1, o, by simpa using h1, by rwa [show i + 1 + k = i + (k + 1) by omega] at h2⟩

/-- What an operation reads, as it is when it comes. -/
def seen (late : AOper → Nat → Bool) (e0 eF : Env) (x : AOper) : Env := x.slots.map fun t => (t, if late x t then e0.get t else eF.get t)
theorem seen_get {late : AOper → Nat → Bool} {e0 eF : Env} {x : AOper} (t : Nat) : (seen late e0 eF x).get t = if t ∈ x.slots then (if late x t then e0.get t else eF.get t) else .und := by
  unfold seen
  induction x.slots with
  | nil => simp [Env.get]
  | cons s l ih =>
    rw [List.map_cons, Env.get_cons, ih]
    by_cases h : s = t
    · subst h; simp
    · have : ¬ t = s := fun hh => h hh.symm
      simp [h, this]

/-! What is known of an operation that may still come. -/
def Fact (calls : Nat → Option Callee) (E : AOper → Env) (eF : Env) (H : Heap) (x : AOper) : Prop :=
  x.op.kl calls ≠ .E ∧
  ((guardSt (E x) x.guard = some false ∧ ∀ d, x.dst = some d → eF.get d = .off) ∨
   (guardSt (E x) x.guard = some true ∧
     ((x.op.kl calls ≠ .A ∧ ∃ v, ev1 calls x.op (E x) H = some (v, H) ∧ ∀ d, x.dst = some d → eF.get d = v) ∨
      (x.op.kl calls = .A ∧ ∃ cs d H0, x.dst = some d ∧ ev1 calls x.op (E x) H0 = some (eF.get d, H0 ++ [cs]) ∧ H[H0.length]? = some cs ∧ blkOf (eF.get d) = some H0.length))))

def blkx (calls : Nat → Option Callee) (eF : Env) (x : AOper) : Option Nat := if x.op.kl calls = .A then blkOf (getD eF x.dst) else none

theorem Fact.grow {E : AOper → Env} {eF : Env} {x : AOper} (h : Fact calls E eF H x) (bs : Heap) : Fact calls E eF (H ++ bs) x := by
  obtain ⟨h0, h⟩ := h
  refine ⟨h0, h.imp id ?_⟩
  rintro ⟨hg, h⟩
  refine ⟨hg, ?_⟩
  rcases h with ⟨ha, v, h1, h2⟩ | ⟨ha, cs, d, H0, h1, h2, h3, h4⟩
  · left
    refine ⟨ha, v, ?_, h2⟩
    cases hk : x.op.kl calls with
    | P => exact (ev1_P hk h1).2 _
    | R => exact (ev1_R hk h1).2 _
    | A => exact absurd hk ha
    | E => exact absurd hk h0
  · right
    exact ⟨ha, cs, d, H0, h1, h2, by rw [List.getElem?_append_left (List.getElem?_eq_some_iff.1 h3).1]; exact h3, h4⟩

theorem Fact.pure {E : AOper → Env} {eF : Env} {x : AOper} (h : Fact calls E eF H x) (hk : x.op.kl calls = .P) (G : Heap) : Fact calls E eF G x := by
  obtain ⟨h0, h⟩ := h
  refine ⟨h0, h.imp id ?_⟩
  rintro ⟨hg, h⟩
  refine ⟨hg, ?_⟩
  rcases h with ⟨ha, v, h1, h2⟩ | ⟨ha, _⟩
  · exact .inl ⟨ha, v, (ev1_P hk h1).2 _, h2⟩
  · rw [hk] at ha; cases ha

theorem off_of {e : Env} {g : Option (Nat × Bool)} (h : offB e g = true) : guardSt e g = some true → False := by
  intro hg
  unfold offB at h
  unfold guardSt at hg
  split at h
  · cases h
  · rename_i t want
    split at h
    · rename_i b hb
      simp only [hb, Option.some.injEq] at hg
      cases b <;> cases want <;> simp at h hg
    · rename_i hb
      simp only [hb] at hg
      cases hg
    · cases h

theorem Fact.again {E : AOper → Env} {eF : Env} {x : AOper} {G : Heap} (h : Fact calls E eF G x) (hk : x.op.kl calls = .R) (hl : offB (E x) x.guard = true ∨ ∃ H', ev1 calls x.op (E x) H = some (getD eF x.dst, H')) : Fact calls E eF H x := by
  obtain ⟨h0, h⟩ := h
  refine ⟨h0, ?_⟩
  rcases h with h | ⟨hg, _⟩
  · exact .inl h
  · rcases hl with hl | ⟨H', hl⟩
    · exact (off_of hl hg).elim
    · have := (ev1_R hk hl).1
      subst this
      exact .inr ⟨hg, .inl ⟨by rw [hk]; decide, _, hl, fun d hd => by rw [hd]; rfl⟩⟩

theorem Fact.still {E : AOper → Env} {eF : Env} {x : AOper} {G : Heap} (h : Fact calls E eF G x) (hk : x.op.kl calls = .A)
    (hl : offB (E x) x.guard = true ∨ ∃ cs b, initBlk (E x) x.op some = some cs ∧ blkOf (getD eF x.dst) = some b ∧ H[b]? = some cs) : Fact calls E eF H x := by
  obtain ⟨h0, h⟩ := h
  refine ⟨h0, ?_⟩
  rcases h with h | ⟨hg, h⟩
  · exact .inl h
  · rcases hl with hl | ⟨cs, b, g1, g2, g3⟩
    · exact (off_of hl hg).elim
    · rcases h with ⟨ha, _⟩ | ⟨ha, cs', d, H0, q1, q2, q3, q4⟩
      · exact absurd hk ha
      · obtain ⟨cs2, p1, p2, p3⟩ := ev1_A hk q2
        rw [g1] at p1
        cases p1
        have := List.append_cancel_left p2
        cases this
        rw [q1] at g2
        have g2 : blkOf (eF.get d) = some b := g2
        rw [q4] at g2
        cases g2
        exact .inr ⟨hg, .inr ⟨ha, _, d, H0, q1, q2, g3, q4⟩⟩

theorem Fact.blk {E : AOper → Env} {eF : Env} {x : AOper} (h : Fact calls E eF H x) {b : Nat} (hb : blkx calls eF x = some b) : b < H.length := by
  unfold blkx at hb
  split at hb
  · rename_i hk
    obtain ⟨_, h⟩ := h
    rcases h with ⟨_, h⟩ | ⟨_, h⟩
    · cases hd : x.dst with
      | none => rw [hd] at hb; cases hb
      | some d => rw [hd] at hb; have hb : blkOf (eF.get d) = some b := hb; rw [h d hd] at hb; cases hb
    · rcases h with ⟨ha, _⟩ | ⟨_, cs, d, H0, q1, q2, q3, q4⟩
      · exact absurd hk ha
      · rw [q1] at hb
        have hb : blkOf (eF.get d) = some b := hb
        rw [q4] at hb
        cases hb
        exact (List.getElem?_eq_some_iff.1 q3).1
  · cases hb

def Dis (calls : Nat → Option Callee) (eF : Env) (l : List AOper) : Prop := ∀ x ∈ l, ∀ y ∈ l, ∀ b, blkx calls eF x = some b → blkx calls eF y = some b → x.idx = y.idx
def Head (calls : Nat → Option Callee) (its : List Item) : Prop := its = [] ∨ ∃ x r, its = .op x :: r ∧ x.op.kl calls = .E

theorem guardSt_congr {e e' : Env} {g : Option (Nat × Bool)} (h : ∀ t, (∃ b, g = some (t, b)) → e.get t = e'.get t) : guardSt e g = guardSt e' g := by
  cases g with
  | none => rfl
  | some tb => obtain ⟨t, b⟩ := tb; simp only [guardSt, h t ⟨b, rfl⟩]
theorem offB_congr {e e' : Env} {g : Option (Nat × Bool)} (h : ∀ t, (∃ b, g = some (t, b)) → e.get t = e'.get t) : offB e g = offB e' g := by
  cases g with
  | none => rfl
  | some tb => obtain ⟨t, b⟩ := tb; simp only [offB, h t ⟨b, rfl⟩]
theorem guard_slot {x : AOper} {t : Nat} (h : ∃ b, x.guard = some (t, b)) : t ∈ x.slots := by
  obtain ⟨b, h⟩ := h; simp [AOper.slots, h]
theorem op_slot {x : AOper} {t : Nat} (h : t ∈ x.op.slots) : t ∈ x.slots := by simp [AOper.slots, h]

/-- Up to the next effect. -/
theorem advance {ms : List Nat} {late : AOper → Nat → Bool} {e0 eF : Env} {HF : Heap} : ∀ (its : List Item) (pend need : List AOper) (e : Env) (H : Heap), evI1 calls its e H = some (eF, HF) → laterOK late its = true → (∀ t ∈ itsDsts its, e.get t = e0.get t) → chk calls ms pend need its = true →
    (∀ x ∈ pend, x ∉ need → Fact calls (seen late e0 eF) eF H x) → (∀ x ∈ need, ∃ G, Fact calls (seen late e0 eF) eF G x) → (∀ x ∈ pend, ∀ b, blkx calls eF x = some b → b < H.length) → Dis calls eF pend →
    ∃ segs its2 e2 bs, evI1 calls its2 e2 (H ++ bs) = some (eF, HF) ∧ laterOK late its2 = true ∧ (∀ t ∈ itsDsts its2, e2.get t = e0.get t) ∧ chk calls ms (pend ++ segs) [] its2 = true ∧ Head calls its2 ∧ True ∧
      (∀ x ∈ pend ++ segs, Fact calls (seen late e0 eF) eF (H ++ bs) x) ∧ Dis calls eF (pend ++ segs) ∧ (∀ x ∈ segs, ∀ b, blkx calls eF x = some b → H.length ≤ b) ∧ itsOps its = segs ++ itsOps its2
  | [], pend, need, e, H, hev, hl, hz, hc, hf, hn, hb, hd => by
    simp only [chk, List.isEmpty_iff] at hc
    subst hc
    exact ⟨[], [], e, [], by simpa using hev, rfl, by simp [itsDsts], by simp [chk], .inl rfl, by simp, by simpa using fun x hx => hf x hx (by simp), by simpa using hd, by simp, rfl⟩
  | .op x :: its, pend, need, e, H, hev, hl, hz, hc, hf, hn, hb, hd => by
    simp only [chk] at hc
    by_cases hk : x.op.kl calls = .E
    · simp only [hk, decide_true, cond_true, Bool.and_eq_true, List.isEmpty_iff] at hc
      obtain ⟨⟨rfl, h2⟩, h3⟩ := hc
      refine ⟨[], .op x :: its, e, [], by simpa using hev, hl, hz, ?_, .inr ⟨x, its, rfl, hk⟩, by simp, by simpa using fun x hx => hf x hx (by simp), by simpa using hd, by simp, rfl⟩
      simp only [chk, hk, decide_true, cond_true, List.append_nil, Bool.and_eq_true, List.isEmpty_nil]
      exact ⟨⟨trivial, h2⟩, h3⟩
    · simp only [hk, decide_false, cond_false, Bool.and_eq_true] at hc
      obtain ⟨hc0, hc⟩ := hc
      have hl0 := hl
      simp only [laterOK, Bool.and_eq_true] at hl
      obtain ⟨⟨l1, l2⟩, l3⟩ := hl
      have hag := its_agree hev
      have hs : ∀ t ∈ x.slots, (seen late e0 eF x).get t = e.get t := by
        intro t ht
        rw [seen_get, if_pos ht]
        have hl1 := eq_of_beq (List.all_eq_true.1 l1 t ht)
        split
        · rename_i hlt
          rw [hlt] at hl1
          exact (hz t ((memB_iff _ _).1 hl1.symm)).symm
        · rename_i hlt
          refine hag t (fun hh => hlt ?_)
          rw [hl1]
          exact (memB_iff _ _).2 hh
      have hz' : ∀ {e1 : Env} {v : V}, (∀ t, Env.get e1 t = e.get t) → ∀ t ∈ itsDsts its, (put e1 x.dst v).get t = e0.get t := by
        intro e1 v h t ht
        have hne : x.dst ≠ some t := by
          intro hh
          rw [hh] at l2
          simp only [Bool.not_eq_true'] at l2
          rw [(memB_iff _ _).2 ht] at l2; cases l2
        rw [put_get_other hne, h]
        exact hz t (by simp only [itsDsts, List.mem_append]; exact .inr ht)
      have hds : ∀ {e1 : Env} {H' : Heap} {v : V}, evI1 calls its (put e1 x.dst v) H' = some (eF, HF) → ∀ d, x.dst = some d → eF.get d = v := by
        intro e1 H' v h d hd
        rw [hd] at l2 h
        rw [its_agree h d (fun hh => by simp only [Bool.not_eq_true'] at l2; rw [(memB_iff _ _).2 hh] at l2; cases l2), put_get_eq]
      have hgu : guardSt (seen late e0 eF x) x.guard = guardSt e x.guard := guardSt_congr fun t ht => hs t (guard_slot ht)
      have hev1 : ∀ {e1 : Env} {G : Heap}, (∀ t, Env.get e1 t = e.get t) → ev1 calls x.op (seen late e0 eF x) G = ev1 calls x.op e1 G := by
        intro e1 G h
        exact evOp_congr (fun t ht => by rw [h, hs t (op_slot ht)]) _ _
      -- the rest, once the fact is known
      have go : ∀ {e1 : Env} {bs0 : Heap}, evI1 calls its e1 (H ++ bs0) = some (eF, HF) → (∀ t ∈ itsDsts its, e1.get t = e0.get t) → True → Fact calls (seen late e0 eF) eF (H ++ bs0) x → (∀ b, blkx calls eF x = some b → H.length ≤ b) →
          ∃ segs its2 e2 bs, evI1 calls its2 e2 (H ++ bs) = some (eF, HF) ∧ laterOK late its2 = true ∧ (∀ t ∈ itsDsts its2, e2.get t = e0.get t) ∧ chk calls ms (pend ++ segs) [] its2 = true ∧ Head calls its2 ∧ True ∧
          (∀ x ∈ pend ++ segs, Fact calls (seen late e0 eF) eF (H ++ bs) x) ∧ Dis calls eF (pend ++ segs) ∧ (∀ x ∈ segs, ∀ b, blkx calls eF x = some b → H.length ≤ b) ∧ itsOps (.op x :: its) = segs ++ itsOps its2 := by
        intro e1 bs0 hev' hz1 hbs hfx hbx
        have hlen : ∀ y ∈ pend ++ [x], ∀ b, blkx calls eF y = some b → b < (H ++ bs0).length := by
          intro y hy b hyb
          rcases List.mem_append.1 hy with hy | hy
          · rw [List.length_append]; exact Nat.lt_of_lt_of_le (hb y hy b hyb) (Nat.le_add_right _ _)
          · rw [List.mem_singleton.1 hy] at hyb; exact hfx.blk hyb
        obtain ⟨segs, its2, e2, bs, g1, g2, g0, g3, g4, g5, g6, g7, g8, g9⟩ := advance its (pend ++ [x]) need e1 (H ++ bs0) hev' l3 hz1 hc
          (fun y hy hny => by
            rcases List.mem_append.1 hy with hy | hy
            · exact (hf y hy hny).grow bs0
            · rw [List.mem_singleton.1 hy]; exact hfx)
          hn hlen
          (fun y hy z hz b h1 h2 => by
            rcases List.mem_append.1 hy with hy | hy <;> rcases List.mem_append.1 hz with hz | hz
            · exact hd y hy z hz b h1 h2
            · rw [List.mem_singleton.1 hz] at h2
              have := hbx b h2
              have := hb y hy b h1
              omega
            · rw [List.mem_singleton.1 hy] at h1
              have := hbx b h1
              have := hb z hz b h2
              omega
            · rw [List.mem_singleton.1 hy, List.mem_singleton.1 hz])
        refine ⟨x :: segs, its2, e2, bs0 ++ bs, by rw [← List.append_assoc]; exact g1, g2, g0, by rw [List.append_cons]; exact g3, g4, ?_, by rw [List.append_cons, ← List.append_assoc]; exact g6, by rw [List.append_cons]; exact g7, ?_, by simp only [itsOps, List.cons_append]; rw [g9]⟩
        · trivial
        · intro y hy b hyb
          rcases List.mem_cons.1 hy with hy | hy
          · rw [hy] at hyb; exact hbx b hyb
          · have := g8 y hy b hyb
            rw [List.length_append] at this
            omega
      rcases op_inv hev with ⟨hg, e1, v, H', h1, h2, h3⟩ | ⟨hg, e1, h1, h3⟩
      · rw [← hev1 h1] at h2
        by_cases ha : x.op.kl calls = .A
        · obtain ⟨cs, q1, rfl, q3, _⟩ := ev1_A ha h2
          simp only [ha, decide_true, Bool.not_true, Bool.false_or] at hc0
          obtain ⟨d, hdd⟩ := Option.isSome_iff_exists.1 hc0
          have hvd := hds h3 d hdd
          refine go (bs0 := [cs]) h3 (hz' h1) (by simp) ⟨hk, .inr ⟨hgu.trans hg, .inr ⟨ha, cs, d, H, hdd, by rw [hvd]; exact h2, by simp, by rw [hvd]; exact q3⟩⟩⟩ ?_
          intro b hbx
          unfold blkx at hbx
          rw [if_pos ha, hdd] at hbx
          have hbx : blkOf (eF.get d) = some b := hbx
          rw [hvd, q3] at hbx
          cases hbx
          exact Nat.le_refl _
        · have hH : H' = H := by
            cases hkk : x.op.kl calls with
            | P => exact (ev1_P hkk h2).1
            | R => exact (ev1_R hkk h2).1
            | A => exact absurd hkk ha
            | E => exact absurd hkk hk
          subst hH
          refine go (bs0 := []) (by rw [List.append_nil]; exact h3) (hz' h1) (by simp) ⟨hk, .inr ⟨hgu.trans hg, .inl ⟨ha, v, by rw [List.append_nil]; exact h2, hds h3⟩⟩⟩ ?_
          intro b hbx
          unfold blkx at hbx
          rw [if_neg ha] at hbx
          cases hbx
      · refine go (bs0 := []) (by rw [List.append_nil]; exact h3) (hz' h1) (by simp) ⟨hk, .inl ⟨hgu.trans hg, hds h3⟩⟩ ?_
        intro b hbx
        unfold blkx at hbx
        split at hbx
        · cases hdd : x.dst with
          | none => rw [hdd] at hbx; cases hbx
          | some d =>
            rw [hdd] at hbx
            have hbx : blkOf (eF.get d) = some b := hbx
            rw [hds h3 d hdd] at hbx
            cases hbx
        · cases hbx
  | .again x :: its, pend, need, e, H, hev, hl, hz, hc, hf, hn, hb, hd => by
    simp only [chk, Bool.and_eq_true, decide_eq_true_eq] at hc
    obtain ⟨hk, hc⟩ := hc
    have hag := its_agree hev
    simp only [laterOK, Bool.and_eq_true] at hl
    obtain ⟨⟨l1, l2⟩, l3⟩ := hl
    have hs : ∀ t ∈ x.slots, (seen late e0 eF x).get t = e.get t := by
      intro t ht
      have := List.all_eq_true.1 l1 t ht
      simp only [Bool.and_eq_true, Bool.not_eq_true'] at this
      rw [seen_get, if_pos ht, this.1, if_neg (by decide)]
      refine hag t (fun hh => ?_)
      have h2 := this.2
      rw [(memB_iff _ _).2 (by simpa [itsDsts, Item.dsts] using hh)] at h2
      cases h2
    have hgd : getD eF x.dst = getD e x.dst := by
      cases hdd : x.dst with
      | none => rfl
      | some d =>
        rw [hdd] at l2
        refine hag d (fun hh => ?_)
        simp only [Bool.not_eq_true'] at l2
        rw [(memB_iff _ _).2 (by simpa [itsDsts, Item.dsts] using hh)] at l2
        cases l2
    obtain ⟨h1, h2⟩ := again_inv hev
    have hlook : offB (seen late e0 eF x) x.guard = true ∨ ∃ H', ev1 calls x.op (seen late e0 eF x) H = some (getD eF x.dst, H') := by
      rw [offB_congr (e' := e) fun t ht => hs t (guard_slot ht), hgd]
      refine h2.imp id ?_
      rintro ⟨H', h⟩
      exact ⟨H', by rw [← h]; exact evOp_congr (fun t ht => hs t (op_slot ht)) _ _⟩
    obtain ⟨segs, its2, e2, bs, g⟩ := advance its pend (need.filter fun y => !decide (y = x)) e H h1 l3 (fun t ht => hz t (by simpa [itsDsts, Item.dsts] using ht)) hc
      (fun y hy hny => by
        by_cases hyn : y ∈ need
        · by_cases hyx : y = x
          · subst hyx
            obtain ⟨G, hG⟩ := hn y hyn
            exact hG.again hk hlook
          · exact absurd (List.mem_filter.2 ⟨hyn, by simp [hyx]⟩) hny
        · exact hf y hy hyn)
      (fun y hy => hn y (List.mem_filter.1 hy).1) hb hd
    exact ⟨segs, its2, e2, bs, g⟩
  | .still x :: its, pend, need, e, H, hev, hl, hz, hc, hf, hn, hb, hd => by
    simp only [chk, Bool.and_eq_true, decide_eq_true_eq] at hc
    obtain ⟨hk, hc⟩ := hc
    have hag := its_agree hev
    simp only [laterOK, Bool.and_eq_true] at hl
    obtain ⟨⟨l1, l2⟩, l3⟩ := hl
    have hs : ∀ t ∈ x.slots, (seen late e0 eF x).get t = e.get t := by
      intro t ht
      have := List.all_eq_true.1 l1 t ht
      simp only [Bool.and_eq_true, Bool.not_eq_true'] at this
      rw [seen_get, if_pos ht, this.1, if_neg (by decide)]
      refine hag t (fun hh => ?_)
      have h2 := this.2
      rw [(memB_iff _ _).2 (by simpa [itsDsts, Item.dsts] using hh)] at h2
      cases h2
    have hgd : getD eF x.dst = getD e x.dst := by
      cases hdd : x.dst with
      | none => rfl
      | some d =>
        rw [hdd] at l2
        refine hag d (fun hh => ?_)
        simp only [Bool.not_eq_true'] at l2
        rw [(memB_iff _ _).2 (by simpa [itsDsts, Item.dsts] using hh)] at l2
        cases l2
    obtain ⟨h1, h2⟩ := still_inv hev
    have hlook : offB (seen late e0 eF x) x.guard = true ∨ ∃ cs b, initBlk (seen late e0 eF x) x.op some = some cs ∧ blkOf (getD eF x.dst) = some b ∧ H[b]? = some cs := by
      rw [offB_congr (e' := e) fun t ht => hs t (guard_slot ht), hgd]
      refine h2.imp id ?_
      rintro ⟨cs, b, q1, q2, q3⟩
      exact ⟨cs, b, by rw [← q1]; exact init_congr (fun t ht => hs t (op_slot ht)) _, q2, q3⟩
    obtain ⟨segs, its2, e2, bs, g⟩ := advance its pend (need.filter fun y => !decide (y = x)) e H h1 l3 (fun t ht => hz t (by simpa [itsDsts, Item.dsts] using ht)) hc
      (fun y hy hny => by
        by_cases hyn : y ∈ need
        · by_cases hyx : y = x
          · subst hyx
            obtain ⟨G, hG⟩ := hn y hyn
            exact hG.still hk hlook
          · exact absurd (List.mem_filter.2 ⟨hyn, by simp [hyx]⟩) hny
        · exact hf y hy hyn)
      (fun y hy => hn y (List.mem_filter.1 hy).1) hb hd
    exact ⟨segs, its2, e2, bs, g⟩
end
end Ev
namespace Ev
open Go

section
variable {P : Program} {calls : Nat → Option Callee} {fids : Nat → Option FuncId} {nt : Nat} {ops : Array Oper}

/-- The listed operations go with all that comes before them. -/
def Closed (ops : Array Oper) (L : Array Bool) : Prop := ∀ i o, ops[i]? = some o → L.getD i false = true → ∀ e ∈ o.after.toList, Region.binds .any e = true → L.getD e.on false = true

theorem Closed.reach {L : Array Bool} (hc : Closed ops L) {i k : Nat} (h : Reach ops i k) : L.getD i false = true → L.getD k false = true := by
  induction h with
  | one h1 h2 h3 h4 => intro hi; rw [← h4]; exact hc _ _ h1 hi _ h2 h3
  | more h1 h2 h3 _ ih => intro hi; exact ih (hc _ _ h1 hi _ h2 h3)

def Preds (ops : Array Oper) (L : Array Bool) (i : Nat) : Prop := ∀ o, ops[i]? = some o → ∀ e ∈ o.after.toList, Region.binds .any e = true → L.getD e.on false = true

theorem Preds.reach {L : Array Bool} {i k : Nat} (hp : Preds ops L i) (hc : Closed ops L) (h : Reach ops i k) : L.getD k false = true := by
  cases h with
  | one h1 h2 h3 h4 => rw [← h4]; exact hp _ h1 _ h2 h3
  | more h1 h2 h3 h5 => exact hc.reach h5 (hp _ h1 _ h2 h3)

theorem getD_def {L : Array Bool} {i : Nat} (h : i < L.size) (b : Bool) : L.getD i b = L[i] := by simp [Array.getD, h]

theorem ready_iff {L : Array Bool} (hs : L.size = ops.size) {i : Nat} : i ∈ Region.ready .any ops L ↔ i < ops.size ∧ L.getD i false = false ∧ Preds ops L i := by
  unfold Region.ready
  rw [List.mem_filter, List.mem_range]
  constructor
  · rintro ⟨h1, h2⟩
    simp only [Bool.and_eq_true, Bool.not_eq_true'] at h2
    refine ⟨h1, by rw [getD_def (by omega)]; rw [getD_def (by omega)] at h2; exact h2.1, ?_⟩
    intro o ho e he hb
    rw [ho] at h2
    have := h2.2
    simp only [Option.map_some, Option.getD_some, Array.all_eq_true_iff_forall_mem] at this
    have := this e (Array.mem_toList_iff.1 he)
    simpa [hb] using this
  · rintro ⟨h1, h2, h3⟩
    refine ⟨h1, ?_⟩
    simp only [Bool.and_eq_true, Bool.not_eq_true']
    refine ⟨by rw [getD_def (by omega)]; rw [getD_def (by omega)] at h2; exact h2, ?_⟩
    have ho : ops[i]? = some ops[i] := Array.getElem?_eq_getElem h1
    rw [ho]
    simp only [Option.map_some, Option.getD_some, Array.all_eq_true_iff_forall_mem]
    intro e he
    cases hb : Region.binds .any e with
    | false => simp
    | true => simpa using h3 _ ho e (Array.mem_toList_iff.2 he) hb

/-- What stands while some operations are listed. -/
structure Inv (calls : Nat → Option Callee) (nt : Nat) (ops : Array Oper) (e0 eF : Env) (ρ0 : Rho) (H0 : Heap) (w0 : World) (a0 : Act)
    (L : Array Bool) (pend rest : List AOper) (H : Heap) (ρ : Rho) (a : Act) (w : World) : Prop where
  size : L.size = ops.size
  rel : R ρ H w
  ext : Ext ρ0 H0 w0 ρ H w
  tm : nt ≤ a.tmps.size
  defers : a.defers = a0.defers
  new : ∀ t k o, ops[k]? = some o → o.dst = some t → L.getD k false = true → VRel ρ (eF.get t) (a.tmps.getD t undef)
  old : ∀ t, (∀ k o, ops[k]? = some o → o.dst = some t → L.getD k false = false) → VRel ρ (e0.get t) (a.tmps.getD t undef)
  closed : Closed ops L
  cover : ∀ k, k < ops.size → L.getD k false = false → (∃ x ∈ pend, x.idx = k) ∨ (∃ x ∈ rest, x.idx = k)
  unl : ∀ x ∈ rest, L.getD x.idx false = false
  nod : ((pend ++ rest).map AOper.idx).Nodup
  free : ∀ x ∈ pend, L.getD x.idx false = false → ∀ b, blkx calls eF x = some b → ρ b = none

variable {e0 eF : Env} {late : AOper → Nat → Bool} {ρ0 : Rho} {H0 : Heap} {w0 : World} {a0 : Act}

theorem getD_set {L : Array Bool} {i k : Nat} (hi : i < L.size) : (L.setIfInBounds i true).getD k false = if k = i then true else L.getD k false := by
  by_cases h : k = i
  · subst h; simp [Array.getD, hi]
  · simp only [Array.getD_eq_getD_getElem?]
    rw [Array.getElem?_setIfInBounds_ne (fun hh => h hh.symm), if_neg h]

/-- One operation more. -/
theorem Inv.step {L : Array Bool} {pend rest pend' rest' : List AOper} {H H' : Heap} {ρ ρ' : Rho} {a : Act} {w w' : World} {i : Nat} {o : Oper} {v' : Value}
    (h : Inv calls nt ops e0 eF ρ0 H0 w0 a0 L pend rest H ρ a w) (ho : ops[i]? = some o) (hp : Preds ops L i) (hd : dstOK nt o.dst = true)
    (hR : R ρ' H' w') (hx : Ext ρ0 H0 w0 ρ' H' w') (hle : ρ.le ρ') (hv : ∀ d, o.dst = some d → VRel ρ' (eF.get d) v')
    (hc : ∀ k, k < ops.size → k ≠ i → L.getD k false = false → (∃ x ∈ pend', x.idx = k) ∨ (∃ x ∈ rest', x.idx = k))
    (hu : ∀ x ∈ rest', x ∈ rest ∧ x.idx ≠ i) (hn : ((pend' ++ rest').map AOper.idx).Nodup)
    (hf : ∀ x ∈ pend', x.idx ≠ i → L.getD x.idx false = false → ∀ b, blkx calls eF x = some b → ρ' b = none) :
    Inv calls nt ops e0 eF ρ0 H0 w0 a0 (L.setIfInBounds i true) pend' rest' H' ρ' (a.put o.dst v') w' := by
  have hi : i < L.size := by rw [h.size]; exact (Array.getElem?_eq_some_iff.1 ho).1
  have hg := fun k => getD_set (k := k) hi
  refine ⟨by simp [h.size], hR, hx, by rw [put_size]; exact h.tm, by rw [put_defers]; exact h.defers, ?_, ?_, ?_, ?_, ?_, hn, ?_⟩
  · intro t k ok hk hdk hLk
    by_cases hdt : o.dst = some t
    · rw [hdt]
      have hlt : t < nt := by rw [hdt] at hd; simpa [dstOK] using hd
      rw [getD_put_same (Nat.lt_of_lt_of_le hlt h.tm)]
      exact hv t hdt
    · rw [getD_put_other hdt]
      have hki : k ≠ i := by
        intro hh; subst hh; rw [ho] at hk; cases hk; exact hdt hdk
      rw [hg, if_neg hki] at hLk
      exact (h.new t k ok hk hdk hLk).mono hle
  · intro t ht
    have hdt : o.dst ≠ some t := by
      intro hh
      have := ht i o ho hh
      rw [hg, if_pos rfl] at this; cases this
    rw [getD_put_other hdt]
    refine (h.old t ?_).mono hle
    intro k ok hk hdk
    have := ht k ok hk hdk
    rw [hg] at this
    split at this
    · cases this
    · exact this
  · intro k ok hk hLk e he hb
    rw [hg] at hLk ⊢
    split
    · rfl
    · split at hLk
      · rename_i hki; subst hki; exact hp ok hk e he hb
      · exact h.closed k ok hk hLk e he hb
  · intro k hk hLk
    rw [hg] at hLk
    split at hLk
    · cases hLk
    · rename_i hki; exact hc k hk hki hLk
  · intro x hx
    obtain ⟨h1, h2⟩ := hu x hx
    rw [hg, if_neg h2]; exact h.unl x h1
  · intro x hx hLx b hb
    rw [hg] at hLx
    split at hLx
    · cases hLx
    · rename_i hxi; exact hf x hx hxi hLx b hb

/-- What the check says of the slots that an operation reads. -/
def ReadsOK (ops : Array Oper) (late : AOper → Nat → Bool) (x : AOper) : Prop := ∀ t ∈ x.slots,
  (late x t = true ∧ ∃ (k : Nat) (o : Oper), ops[k]? = some o ∧ o.dst = some t ∧ (k = x.idx ∨ Reach ops k x.idx)) ∨
  (late x t = false ∧ ∀ (k : Nat) (o : Oper), ops[k]? = some o → o.dst = some t → Reach ops x.idx k)

/-- What an operation reads is there. -/
theorem Inv.env {L : Array Bool} {pend rest : List AOper} {H : Heap} {ρ : Rho} {a : Act} {w : World} (h : Inv calls nt ops e0 eF ρ0 H0 w0 a0 L pend rest H ρ a w) {x : AOper}
    (hdst : ∀ (i j : Nat) (o o' : Oper) (t : Nat), ops[i]? = some o → ops[j]? = some o' → o.dst = some t → o'.dst = some t → i = j)
    (hno : ∀ t, (∀ (k : Nat) (o : Oper), ops[k]? = some o → o.dst ≠ some t) → eF.get t = e0.get t)
    (hr : ReadsOK ops late x) (hp : Preds ops L x.idx) (hL : L.getD x.idx false = false) : EnvRel ρ (seen late e0 eF x) a := by
  intro t
  rw [seen_get]
  split
  · rename_i ht
    rcases hr t ht with ⟨hl, k, o, h1, h2, h3⟩ | ⟨hl, h1⟩
    · rw [if_pos hl]
      refine h.old t ?_
      intro k' o' hk' hd'
      have := hdst _ _ _ _ _ hk' h1 hd' h2
      subst this
      rcases h3 with h3 | h3
      · subst h3; exact hL
      · cases hLk : L.getD k' false with
        | false => rfl
        | true =>
          have := h.closed.reach h3 hLk
          rw [hL] at this; cases this
    · rw [if_neg (by rw [hl]; decide)]
      by_cases hex : ∃ (k : Nat) (o : Oper), ops[k]? = some o ∧ o.dst = some t
      · obtain ⟨k, o, hk, hd⟩ := hex
        exact h.new t k o hk hd (hp.reach h.closed (h1 k o hk hd))
      · have hnone : ∀ (k : Nat) (o : Oper), ops[k]? = some o → o.dst ≠ some t := fun k o hk hd => hex ⟨k, o, hk, hd⟩
        rw [hno t hnone]
        exact h.old t (fun k o hk hd => absurd hd (hnone k o hk))
  · trivial

theorem wpOp_off {e1 : Env} {Q : Exit → Act → World → Prop} {x : AOper} {o : Oper} {i : Nat} {a : Act} {w : World} {ρ : Rho} {K : Act → World → Prop} (hi : ops[i]? = some o) (ok : guardOK ops x.guard o.guard = true)
    (he : EnvRel ρ e1 a) (hg : guardSt e1 x.guard = some false) (h : K (a.put o.dst undef) w) : wpOp P ops Q i K a w := by
  unfold wpOp
  simp only [hi]
  have hw : Region.wanted o (yielded ops a.tmps) = false := by
    cases hgd : x.guard with
    | none => rw [hgd] at hg; cases hg
    | some tb =>
      obtain ⟨t, b⟩ := tb
      rw [hgd] at hg ok
      simp only [guardSt] at hg
      split at hg
      · rename_i g ht
        rw [wanted_bool ok he ht]
        exact Option.some.inj hg
      · rename_i ht
        exact wanted_off ok he ht
      · cases hg
  rw [hw, if_neg (by decide)]
  exact h

theorem wpOp_on {e1 : Env} {Q : Exit → Act → World → Prop} {x : AOper} {o : Oper} {i : Nat} {a : Act} {w : World} {ρ : Rho} {K : Act → World → Prop} (hi : ops[i]? = some o) (ok : guardOK ops x.guard o.guard = true)
    (he : EnvRel ρ e1 a) (hg : guardSt e1 x.guard = some true) (h : o.wp P a w K Q) : wpOp P ops Q i K a w := by
  unfold wpOp
  simp only [hi]
  have hw : Region.wanted o (yielded ops a.tmps) = true := by
    cases hgd : x.guard with
    | none => rw [hgd] at ok; exact wanted_none ok _
    | some tb =>
      obtain ⟨t, b⟩ := tb
      rw [hgd] at hg ok
      simp only [guardSt] at hg
      split at hg
      · rename_i g ht
        rw [wanted_bool ok he ht]
        exact Option.some.inj hg
      · cases hg
      · cases hg
  rw [hw, if_pos rfl]
  exact .inl h

theorem reach_lt (hback : ∀ i o, ops[i]? = some o → ∀ e ∈ o.after.toList, Region.binds .any e = true → e.on < i) {i k : Nat} (h : Reach ops i k) : k < i := by
  induction h with
  | one h1 h2 h3 h4 => rw [← h4]; exact hback _ _ h1 _ h2 h3
  | more h1 h2 h3 _ ih => exact Nat.lt_trans ih (hback _ _ h1 _ h2 h3)

theorem none_ready (hback : ∀ i o, ops[i]? = some o → ∀ e ∈ o.after.toList, Region.binds .any e = true → e.on < i) {L : Array Bool} (hs : L.size = ops.size) (h : Region.ready .any ops L = []) :
    ∀ k, k < ops.size → L.getD k false = true := by
  intro k
  induction k using Nat.strongRecOn with
  | ind k ih =>
    intro hk
    cases hL : L.getD k false with
    | true => rfl
    | false =>
      exfalso
      have : k ∈ Region.ready .any ops L := (ready_iff hs).2 ⟨hk, hL, fun o ho e he hb => ih e.on (hback k o ho e he hb) (Nat.lt_trans (hback k o ho e he hb) hk)⟩
      rw [h] at this; cases this

theorem sim (hCO : CallsOK P calls fids) {ms : List Nat} {HF : Heap} {Q : Exit → Act → World → Prop} {xs : List AOper}
    (hms : ∀ i k, Nat.testBit (ms.getD i 0) k = true → Reach ops i k)
    (hback : ∀ i o, ops[i]? = some o → ∀ e ∈ o.after.toList, Region.binds .any e = true → e.on < i)
    (hok : ∀ x ∈ xs, ∃ o, ops[x.idx]? = some o ∧ aoperOK P fids nt ops x o = true)
    (hr : ∀ x ∈ xs, ReadsOK ops late x)
    (hdst : ∀ (i j : Nat) (o o' : Oper) (t : Nat), ops[i]? = some o → ops[j]? = some o' → o.dst = some t → o'.dst = some t → i = j)
    (hno : ∀ t, (∀ (k : Nat) (o : Oper), ops[k]? = some o → o.dst ≠ some t) → eF.get t = e0.get t)
    (hdom : ∀ b pl, ρ0 b = some pl → b < H0.length)
    (hn : ∀ ρ a w, R ρ HF w → EnvRel ρ eF a → Ext ρ0 H0 w0 ρ HF w → nt ≤ a.tmps.size → a.defers = a0.defers → Q .normal a w) :
    ∀ (fuel : Nat) (L : Array Bool) (pend : List AOper) (its : List Item) (e : Env) (H : Heap) (ρ : Rho) (a : Act) (w : World),
      Head calls its → evI1 calls its e H = some (eF, HF) → laterOK late its = true → (∀ t ∈ itsDsts its, e.get t = e0.get t) → chk calls ms pend [] its = true → (∀ x ∈ pend, Fact calls (seen late e0 eF) eF H x) → Dis calls eF pend → (∀ x ∈ pend, ∀ b, blkx calls eF x = some b → H0.length ≤ b) → (∀ x ∈ pend ++ itsOps its, x ∈ xs) →
      Inv calls nt ops e0 eF ρ0 H0 w0 a0 L pend (itsOps its) H ρ a w → ((List.range ops.size).filter fun k => !L.getD k false).length ≤ fuel → wpAny P .any ops Q fuel L a w := by
  have allIn : ∀ {L : Array Bool} {pend rest : List AOper} {H : Heap} {ρ : Rho} {a : Act} {w : World}, Inv calls nt ops e0 eF ρ0 H0 w0 a0 L pend rest H ρ a w → (∀ k, k < ops.size → L.getD k false = true) → EnvRel ρ eF a := by
    intro L pend rest H ρ a w hI hall t
    by_cases hex : ∃ (k : Nat) (o : Oper), ops[k]? = some o ∧ o.dst = some t
    · obtain ⟨k, o, hk, hd⟩ := hex
      exact hI.new t k o hk hd (hall k (Array.getElem?_eq_some_iff.1 hk).1)
    · have hnone : ∀ (k : Nat) (o : Oper), ops[k]? = some o → o.dst ≠ some t := fun k o hk hd => hex ⟨k, o, hk, hd⟩
      rw [hno t hnone]
      exact hI.old t (fun k o hk hd => absurd hd (hnone k o hk))
  intro fuel
  induction fuel with
  | zero =>
    intro L pend its e H ρ a w hh hev hl hz hc hf hd hbl hx hI hfu
    have hall : ∀ k, k < ops.size → L.getD k false = true := by
      intro k hk
      cases hL : L.getD k false with
      | true => rfl
      | false =>
        have : k ∈ (List.range ops.size).filter fun k => !L.getD k false := List.mem_filter.2 ⟨List.mem_range.2 hk, by rw [hL]; rfl⟩
        rw [List.eq_nil_of_length_eq_zero (Nat.le_zero.1 hfu)] at this
        cases this
    have hits : its = [] := by
      rcases hh with rfl | ⟨x, r, rfl, _⟩
      · rfl
      · have h1 := hI.unl x (by simp [itsOps])
        obtain ⟨o, ho, _⟩ := hok x (hx x (by simp [itsOps]))
        rw [hall _ (Array.getElem?_eq_some_iff.1 ho).1] at h1; cases h1
    subst hits
    cases hev
    refine ⟨?_, hn ρ a w hI.rel (allIn hI hall) hI.ext hI.tm hI.defers⟩
    · cases hr : Region.ready .any ops L with
      | nil => rfl
      | cons i l =>
        have : i ∈ Region.ready .any ops L := by rw [hr]; simp
        obtain ⟨h1, h2, _⟩ := (ready_iff hI.size).1 this
        rw [hall i h1] at h2; cases h2
  | succ fuel ih =>
    intro L pend its e H ρ a w hh hev hl hz hc hf hd hbl hx hI hfu
    refine ⟨?_, ?_⟩
    · intro hr0
      have hall := none_ready hback hI.size hr0
      have hits : its = [] := by
        rcases hh with rfl | ⟨x, r, rfl, _⟩
        · rfl
        · have h1 := hI.unl x (by simp [itsOps])
          obtain ⟨o, ho, _⟩ := hok x (hx x (by simp [itsOps]))
          rw [hall _ (Array.getElem?_eq_some_iff.1 ho).1] at h1; cases h1
      subst hits
      cases hev
      exact hn ρ a w hI.rel (allIn hI hall) hI.ext hI.tm hI.defers
    · intro i hi
      obtain ⟨hi1, hi2, hp⟩ := (ready_iff hI.size).1 hi
      have hLs : i < L.size := by rw [hI.size]; exact hi1
      have hfuel : ((List.range ops.size).filter fun k => !(L.setIfInBounds i true).getD k false).length ≤ fuel := by
        have h1 : ((List.range ops.size).filter fun k => !(L.setIfInBounds i true).getD k false) = ((List.range ops.size).filter fun k => !L.getD k false).filter fun k => !decide (k = i) := by
          rw [List.filter_filter]
          apply List.filter_congr
          intro k _
          rw [getD_set hLs]
          by_cases hki : k = i <;> simp [hki]
        have h2 : (((List.range ops.size).filter fun k => !L.getD k false).filter fun k => !decide (k = i)).length < ((List.range ops.size).filter fun k => !L.getD k false).length := by
          refine List.length_filter_lt_length_iff_exists.2 ⟨i, List.mem_filter.2 ⟨List.mem_range.2 hi1, by rw [hi2]; rfl⟩, by simp⟩
        rw [h1]; omega
      rcases hI.cover i hi1 hi2 with ⟨x, hxp, hxi⟩ | ⟨x, hxr, hxi⟩
      · -- an operation that waits
        subst hxi
        have hxx : x ∈ xs := hx x (by simp [hxp])
        obtain ⟨o, ho, ok⟩ := hok x hxx
        simp only [aoperOK, Bool.and_eq_true, decide_eq_true_eq] at ok
        obtain ⟨⟨⟨o1, o2⟩, o3⟩, o4⟩ := ok
        have he := hI.env hdst hno (hr x hxx) hp hi2
        obtain ⟨hk0, hfx⟩ := hf x hxp
        have hdo : dstOK nt o.dst = true := by rw [← o1]; exact o2
        have hcov : ∀ k, k < ops.size → k ≠ x.idx → L.getD k false = false → (∃ y ∈ pend, y.idx = k) ∨ (∃ y ∈ itsOps its, y.idx = k) := fun k hk _ hLk => hI.cover k hk hLk
        have hun : ∀ y ∈ itsOps its, y ∈ itsOps its ∧ y.idx ≠ x.idx := by
          intro y hy
          refine ⟨hy, fun hh => ?_⟩
          have := hI.nod
          rw [List.map_append, List.nodup_append] at this
          exact this.2.2 x.idx (List.mem_map.2 ⟨x, hxp, rfl⟩) y.idx (List.mem_map.2 ⟨y, hy, rfl⟩) hh.symm
        -- the state afterwards, the heap being the same
        have next : ∀ {ρ' : Rho} {w' : World} {v' : Value}, R ρ' H w' → Ext ρ0 H0 w0 ρ' H w' → ρ.le ρ' → (∀ d, x.dst = some d → VRel ρ' (eF.get d) v') →
            (∀ y ∈ pend, y.idx ≠ x.idx → L.getD y.idx false = false → ∀ b, blkx calls eF y = some b → ρ' b = none) → wpAny P .any ops Q fuel (L.setIfInBounds x.idx true) (a.put o.dst v') w' := by
          intro ρ' w' v' hR hX hle hv hfree
          exact ih _ pend its e H ρ' _ w' hh hev hl hz hc hf hd hbl hx (hI.step ho hp hdo hR hX hle (by rw [← o1]; exact hv) hcov hun hI.nod hfree) hfuel
        rcases hfx with ⟨hg, hoff⟩ | ⟨hg, hon⟩
        · refine wpOp_off ho o3 he hg ?_
          exact next hI.rel hI.ext (Rho.le_refl _) (fun d hdd => by rw [hoff d hdd]; rfl) (fun y hy _ hL b hb => hI.free y hy hL b hb)
        · refine wpOp_on ho o3 he hg ?_
          rcases hon with ⟨ha, v, h1, h2⟩ | ⟨ha, cs, d, G, h1, h2, h3, h4⟩
          · refine evOp_goes hCO hI.rel he o4 h1 _ _ ?_
            intro u u' H' ρ' w' hk hv hR' hX
            cases hk
            refine next hR' (hI.ext.trans hX hdom) hX.le (fun d hdd => by rw [h2 d hdd]; exact hv) ?_
            · intro y hy _ hL b hb
              cases hρ : ρ' b with
              | none => rfl
              | some pl =>
                have := (hX.new b pl hρ (hI.free y hy hL b hb)).1
                have := (hf y hy).blk hb
                omega
          · obtain ⟨ob, v', g1, g2, g3⟩ := alloc_spec (P := P) he ha o4 h2 w
            have hbx : blkx calls eF x = some G.length := by unfold blkx; rw [if_pos ha, h1]; exact h4
            have hfree : ρ G.length = none := hI.free x hxp hi2 _ hbx
            refine wp_value g1 (next (hI.rel.enterB h3 hfree g2) (hI.ext.enter (hbl x hxp _ hbx) hfree (plOf_k _ _)) (Rho.le_set _ hfree) ?_ ?_)
            · intro d' hd'
              rw [h1] at hd'
              cases hd'
              exact g3 _ (Rho.set_same _ _ _)
            · intro y hy hne hL b hb
              have : b ≠ G.length := by
                intro hbG
                subst hbG
                exact hne (hd y hy x hxp _ hb hbx)
              rw [Rho.set_other _ _ this]
              exact hI.free y hy hL b hb
      · -- the next effect
        rcases hh with rfl | ⟨h, r, rfl, hE⟩
        · cases hxr
        · simp only [chk, hE, decide_true, cond_true, Bool.and_eq_true] at hc
          obtain ⟨⟨_, hc1⟩, hc2⟩ := hc
          have hxh : x = h := by
            rcases List.mem_cons.1 (show x ∈ h :: itsOps r from hxr) with h' | h'
            · exact h'
            · exfalso
              have h1 := List.all_eq_true.1 hc1 x h'
              have h2 := hp.reach hI.closed (by rw [← hxi]; exact hms _ _ h1)
              rw [hI.unl h (by simp [itsOps])] at h2; cases h2
          subst hxh
          subst hxi
          have hxx : x ∈ xs := hx x (by simp [itsOps])
          obtain ⟨o, ho, ok⟩ := hok x hxx
          simp only [aoperOK, Bool.and_eq_true, decide_eq_true_eq] at ok
          obtain ⟨⟨⟨o1, o2⟩, o3⟩, o4⟩ := ok
          have he := hI.env hdst hno (hr x hxx) hp hi2
          have hdo : dstOK nt o.dst = true := by rw [← o1]; exact o2
          have hl0 := hl
          simp only [laterOK, Bool.and_eq_true] at hl
          obtain ⟨⟨l1, l2⟩, l3⟩ := hl
          have hag := its_agree hev
          have hs : ∀ t ∈ x.slots, (seen late e0 eF x).get t = e.get t := by
            intro t ht
            rw [seen_get, if_pos ht]
            have hl1 := eq_of_beq (List.all_eq_true.1 l1 t ht)
            split
            · rename_i hlt
              rw [hlt] at hl1
              exact (hz t ((memB_iff _ _).1 hl1.symm)).symm
            · rename_i hlt
              refine hag t (fun hh => hlt ?_)
              rw [hl1]
              exact (memB_iff _ _).2 hh
          have hz' : ∀ {e1 : Env} {v : V}, (∀ t, Env.get e1 t = e.get t) → ∀ t ∈ itsDsts r, (put e1 x.dst v).get t = e0.get t := by
            intro e1 v h t ht
            have hne : x.dst ≠ some t := by
              intro hh
              rw [hh] at l2
              simp only [Bool.not_eq_true'] at l2
              rw [(memB_iff _ _).2 ht] at l2; cases l2
            rw [put_get_other hne, h]
            exact hz t (by simp only [itsDsts, List.mem_append]; exact .inr ht)
          have hds : ∀ {e1 : Env} {H' : Heap} {v : V}, evI1 calls r (put e1 x.dst v) H' = some (eF, HF) → ∀ d, x.dst = some d → eF.get d = v := by
            intro e1 H' v h d hdd
            rw [hdd] at l2 h
            rw [its_agree h d (fun hh => by simp only [Bool.not_eq_true'] at l2; rw [(memB_iff _ _).2 hh] at l2; cases l2), put_get_eq]
          have hgu : guardSt (seen late e0 eF x) x.guard = guardSt e x.guard := guardSt_congr fun t ht => hs t (guard_slot ht)
          have hev1 : ∀ {e1 : Env} {G : Heap}, (∀ t, Env.get e1 t = e.get t) → ev1 calls x.op (seen late e0 eF x) G = ev1 calls x.op e1 G := by
            intro e1 G h
            exact evOp_congr (fun t ht => by rw [h, hs t (op_slot ht)]) _ _
          let keep := pend.filter fun y => !Nat.testBit (ms.getD x.idx 0) y.idx
          have hkeep : ∀ y ∈ keep, y ∈ pend := fun y hy => (List.mem_filter.1 hy).1
          -- on to the next effect
          have next : ∀ {ρ' : Rho} {w' : World} {v' : Value} {e1 : Env} {v : V} {H' : Heap}, evI1 calls r (put e1 x.dst v) H' = some (eF, HF) → (∀ t ∈ itsDsts r, (put e1 x.dst v).get t = e0.get t) → R ρ' H' w' → Ext ρ0 H0 w0 ρ' H' w' → ρ.le ρ' → H.length ≤ H'.length → VRel ρ' v v' →
              (∀ y ∈ pend, L.getD y.idx false = false → ∀ b, blkx calls eF y = some b → ρ' b = none) → wpAny P .any ops Q fuel (L.setIfInBounds x.idx true) (a.put o.dst v') w' := by
            intro ρ' w' v' e1 v H' hev' hz1 hR hX hle hlen hv hfree
            obtain ⟨segs, its2, e2, bs, g1, g2, g0, g3, g4, g5, g6, g7, g8, g9⟩ := advance r keep _ _ H' hev' l3 hz1 hc2
              (fun y hy hny => by
                have hP : y.op.kl calls = .P := by
                  cases hkk : decide (y.op.kl calls = .P) with
                  | true => exact of_decide_eq_true hkk
                  | false => exact absurd (List.mem_filter.2 ⟨hy, by rw [hkk]; rfl⟩) hny
                exact (hf y (hkeep y hy)).pure hP H')
              (fun y hy => ⟨H, hf y (hkeep y (List.mem_filter.1 hy).1)⟩)
              (fun y hy b hb => Nat.lt_of_lt_of_le ((hf y (hkeep y hy)).blk hb) hlen)
              (fun y hy z hz b h1 h2 => hd y (hkeep y hy) z (hkeep z hz) b h1 h2)
            have hsub : (keep ++ segs ++ itsOps its2).Sublist (pend ++ itsOps (.op x :: r)) := by
              simp only [itsOps]
              rw [g9, List.append_assoc]
              exact List.Sublist.append List.filter_sublist (List.sublist_cons_self _ _)
            refine ih _ (keep ++ segs) its2 e2 (H' ++ bs) ρ' _ w' g4 g1 g2 g0 g3 g6 g7 (fun y hy b hb => ?_) (fun y hy => hx y (hsub.subset hy)) ?_ hfuel
            · rcases List.mem_append.1 hy with hy | hy
              · exact hbl y (hkeep y hy) b hb
              · exact Nat.le_trans hX.len (g8 y hy b hb)
            refine hI.step ho hp hdo (hR.grow bs) (hX.grow bs) hle (by rw [← o1]; intro d hdd; rw [hds hev' d hdd]; exact hv) ?_ ?_ ?_ ?_
            · intro k hk hki hLk
              rcases hI.cover k hk hLk with ⟨y, hy, hyk⟩ | ⟨y, hy, hyk⟩
              · left
                refine ⟨y, List.mem_append_left _ (List.mem_filter.2 ⟨hy, ?_⟩), hyk⟩
                cases htb : Nat.testBit (ms.getD x.idx 0) y.idx with
                | false => rfl
                | true =>
                  have := hp.reach hI.closed (hms _ _ htb)
                  rw [hyk, hLk] at this; cases this
              · rcases List.mem_cons.1 (show y ∈ x :: itsOps r from hy) with h' | h'
                · subst h'; exact absurd hyk.symm hki
                · rw [g9] at h'
                  rcases List.mem_append.1 h' with h' | h'
                  · exact .inl ⟨y, List.mem_append_right _ h', hyk⟩
                  · exact .inr ⟨y, h', hyk⟩
            · intro y hy
              have hyr : y ∈ itsOps r := by rw [g9]; exact List.mem_append_right _ hy
              refine ⟨List.mem_cons_of_mem _ hyr, fun hh => ?_⟩
              have := reach_lt hback (hms _ _ (List.all_eq_true.1 hc1 y hyr))
              omega
            · exact (hsub.map AOper.idx).nodup hI.nod
            · intro y hy hne hL b hb
              rcases List.mem_append.1 hy with hy | hy
              · exact hfree y (hkeep y hy) hL b hb
              · cases hρ : ρ' b with
                | none => rfl
                | some pl =>
                  have h1 := hR.dom b pl hρ
                  have h2 := g8 y hy b hb
                  omega
          rcases op_inv hev with ⟨hg, e1, v, H', h1, h2, h3⟩ | ⟨hg, e1, h1, h3⟩
          · rw [← hev1 h1] at h2
            refine wpOp_on ho o3 he (hgu.trans hg) ?_
            refine evOp_goes hCO hI.rel he o4 h2 _ _ ?_
            intro u u' H'' ρ' w' hk hv hR' hX
            cases hk
            refine next h3 (hz' h1) hR' (hI.ext.trans hX hdom) hX.le hX.len hv ?_
            · intro y hy hL b hb
              cases hρ : ρ' b with
              | none => rfl
              | some pl =>
                have := (hX.new b pl hρ (hI.free y hy hL b hb)).1
                have := (hf y hy).blk hb
                omega
          · refine wpOp_off ho o3 he (hgu.trans hg) ?_
            exact next h3 (hz' h1) hI.rel hI.ext (Rho.le_refl _) (Nat.le_refl _) rfl (fun y hy hL b hb => hI.free y hy hL b hb)

/-- Regions whose order is drawn. -/
theorem draw_sound (hCO : CallsOK P calls fids) (its : List Item) (ops : Array Oper) (ok : drawOK P calls fids nt its ops = true) : RegSound P calls nt its ops := by
  intro R0 k r ρ e H a w Q id hR he hs hev hn
  simp only [drawOK, Bool.and_eq_true] at ok
  obtain ⟨⟨⟨⟨⟨⟨⟨⟨c1, c2⟩, c3⟩, c4⟩, c5⟩, c6⟩, c7⟩, c8⟩, c9⟩ := ok
  rw [evIts_evI1] at hev
  obtain ⟨p, h1, h2⟩ := Option.bind_some_inv hev
  obtain ⟨eF, HF⟩ := p
  have hms := masks_sound (ops := ops) ops.toList [] (by simp) (by intro i k h; simp at h)
  have hback : ∀ i o, ops[i]? = some o → ∀ e ∈ o.after.toList, Region.binds .any e = true → e.on < i := by
    intro i o ho e he hb
    have := List.all_eq_true.1 (allFrom_ops c2 ho) e he
    simpa [hb] using this
  have hok : ∀ x ∈ itsOps its, ∃ o, ops[x.idx]? = some o ∧ aoperOK P fids nt ops x o = true := by
    intro x hx
    have := List.all_eq_true.1 c3 x hx
    split at this
    · rename_i o ho; exact ⟨o, ho, this⟩
    · cases this
  have hr : ∀ x ∈ itsOps its, ReadsOK ops (lateB ops.toList (masks ops.toList [])) x := by
    intro x hx t ht
    cases hl : lateB ops.toList (masks ops.toList []) x t with
    | true =>
      left
      obtain ⟨k, o, h1, h2⟩ := anyFrom_spec hl
      rw [Nat.zero_add] at h2
      simp only [Bool.and_eq_true, decide_eq_true_eq, Bool.or_eq_true] at h2
      refine ⟨rfl, k, o, by rw [← Array.getElem?_toList]; exact h1, h2.1, ?_⟩
      rcases h2.2 with h3 | h3
      · exact .inl (Nat.eq_of_beq_eq_true h3)
      · exact .inr (hms _ _ h3)
    | false =>
      right
      refine ⟨rfl, fun k o ho hd => ?_⟩
      have := List.all_eq_true.1 (List.all_eq_true.1 c4 x hx) t ht
      rw [hl, Bool.false_or] at this
      have := allFrom_ops this ho
      simp only [hd, decide_true, Bool.not_true, Bool.false_or] at this
      exact hms _ _ this
  have hdst : ∀ (i j : Nat) (o o' : Oper) (t : Nat), ops[i]? = some o → ops[j]? = some o' → o.dst = some t → o'.dst = some t → i = j := by
    intro i j o o' t h1 h2 h3 h4
    exact dstsOK_spec c5 i j o o' t (by rw [Array.getElem?_toList]; exact h1) (by rw [Array.getElem?_toList]; exact h2) h3 h4
  have hwr : ∀ t ∈ itsDsts its, ∃ (k : Nat) (o : Oper), ops[k]? = some o ∧ o.dst = some t := by
    intro t hh
    have : ∃ x ∈ itsOps its, x.dst = some t := by
      clear h1 c8 c9 c3 c4 c6 c7 hok hr hev hn
      induction its with
      | nil => cases hh
      | cons i its ih =>
        simp only [itsDsts, List.mem_append] at hh
        cases i with
        | op x =>
          rcases hh with hh | hh
          · refine ⟨x, by simp [itsOps], ?_⟩
            simp only [Item.dsts] at hh
            split at hh
            · rename_i d hd; rw [List.mem_singleton.1 hh]; exact hd
            · cases hh
          · obtain ⟨y, hy1, hy2⟩ := ih hh
            exact ⟨y, List.mem_cons_of_mem _ hy1, hy2⟩
        | again x =>
          rcases hh with hh | hh
          · simp [Item.dsts] at hh
          · exact ih hh
        | still x =>
          rcases hh with hh | hh
          · simp [Item.dsts] at hh
          · exact ih hh
    obtain ⟨x, hx, hxd⟩ := this
    obtain ⟨o, ho, hoo⟩ := hok x hx
    simp only [aoperOK, Bool.and_eq_true, decide_eq_true_eq] at hoo
    exact ⟨x.idx, o, ho, by rw [← hoo.1.1.1]; exact hxd⟩
  have hno : ∀ t, (∀ (k : Nat) (o : Oper), ops[k]? = some o → o.dst ≠ some t) → eF.get t = e.get t := fun t ht => its_agree h1 t (fun hh => by
    obtain ⟨k, o, ho, hd⟩ := hwr t hh
    exact ht k o ho hd)
  refine wp_region_any c1 ?_
  have hR' : R ρ H { w with drawn := w.drawn + 1 } := hR.world fun _ _ => rfl
  have hX' : Ext ρ H w ρ H { w with drawn := w.drawn + 1 } := ⟨Rho.le_refl _, Nat.le_refl _, fun b pl h h' => by simp [h] at h', fun _ _ h => h, Nat.le_refl _, rfl, rfl, rfl, fun _ _ _ => rfl, fun b pl es dc h1 h2 => ⟨es, dc, h2, MapStep.same (hR.mp b pl es dc h1 h2) rfl⟩⟩
  obtain ⟨segs, its2, e2, bs, g1, g2, g0, g3, g4, g5, g6, g7, g8, g9⟩ := advance its [] [] e H h1 c8 (fun _ _ => rfl) c9 (by simp) (by simp) (by simp) (by intro x hx; simp at hx)
  simp only [List.nil_append] at g3 g6 g7
  refine sim (P := P) (nt := nt) (ρ0 := ρ) (H0 := H) (w0 := w) (a0 := a) hCO hms hback hok hr hdst hno hR.dom (fun ρ' a' w' q1 q2 q3 q4 q5 => hn eF HF ρ' a' w' h2 ⟨q1, q2, q3, q4, q5, fun t ht => its_agree h1 t ht⟩)
    ops.size (Array.replicate ops.size false) segs its2 e2 (H ++ bs) ρ a _ g4 g1 g2 g0 g3 g6 g7 g8 (fun x hx => by rw [g9]; exact hx) ?_ ?_
  · have hL : ∀ k, (Array.replicate ops.size false).getD k false = false := by
      intro k
      by_cases hk : k < ops.size <;> simp [Array.getD, hk]
    refine ⟨by simp, hR'.grow bs, hX'.grow bs, hs, rfl, ?_, ?_, ?_, ?_, ?_, ?_, ?_⟩
    · intro t k o _ _ hLk; rw [hL] at hLk; cases hLk
    · intro t _; exact he t
    · intro i o _ hLi; rw [hL] at hLi; cases hLi
    · intro k hk _
      have := (memB_iff _ _).1 (allFrom_ops (f := fun k _ => memB k ((itsOps its).map AOper.idx)) c7 (Array.getElem?_eq_getElem hk))
      obtain ⟨x, hx, hxk⟩ := List.mem_map.1 this
      rw [g9] at hx
      rcases List.mem_append.1 hx with hx | hx
      · exact .inl ⟨x, hx, hxk⟩
      · exact .inr ⟨x, hx, hxk⟩
    · intro x _; exact hL _
    · rw [← g9]; exact nodupB_spec c6
    · intro x hx _ b hb
      cases hρ : ρ b with
      | none => rfl
      | some pl =>
        have := hR.dom b pl hρ
        have := g8 x hx b hb
        omega
  · refine Nat.le_trans (List.length_filter_le _ _) ?_
    simp

end
end Ev
namespace Ev
open Go

/-- A callee that is tied to a function of the program. -/
structure Tied (P : Program) (c : Callee) (g : FuncId) : Prop where
  sound : c.Sound P g
  enters : ∃ fn, P.funcs[g]? = some fn ∧ (fn.name == "runtime.NumGoroutine") = false ∧ fn.body.isNone = false

/-- What a function may call, by the places in its list of callees. -/
def fidsOf (l : List FuncId) : Nat → Option FuncId := fun j => l[j]?

def CallsTied (P : Program) (calls : Nat → Option Callee) : List FuncId → Nat → Prop
  | [], n => ∀ j, n ≤ j → calls j = none
  | g :: r, n => (∃ c, calls n = some c ∧ Tied P c g) ∧ CallsTied P calls r (n + 1)

theorem CallsTied.get {P : Program} {calls : Nat → Option Callee} : ∀ {l : List FuncId} {n j : Nat} {c : Callee} {g : FuncId}, CallsTied P calls l n → calls (n + j) = some c → l[j]? = some g → Tied P c g
  | [], _, _, _, _, _, _, h => by simp at h
  | x :: r, n, j, c, g, h, hc, hg => by
    obtain ⟨⟨c', h1, h2⟩, h3⟩ := h
    cases j with
    | zero =>
      rw [Nat.add_zero, h1] at hc
      simp at hg
      cases hc; cases hg; exact h2
    | succ j => exact CallsTied.get (n := n + 1) h3 (by rw [Nat.add_right_comm]; exact hc) (by simpa using hg)

theorem CallsTied.ok {P : Program} {calls : Nat → Option Callee} {l : List FuncId} (h : CallsTied P calls l 0) : CallsOK P calls (fidsOf l) :=
  ⟨fun f c g hc hg => (h.get (j := f) (by rw [Nat.zero_add]; exact hc) hg).sound, fun f c g hc hg => (h.get (j := f) (by rw [Nat.zero_add]; exact hc) hg).enters⟩

/-- The check of a function. -/
noncomputable def chkFn (P : Program) (calls : Nat → Option Callee) (l : List FuncId) (f : AFun) (fn : Func) : Bool := fnOK P (fidsOf l) (fun nt => drawOK P calls (fidsOf l) nt) f fn

section
variable {P : Program} {calls : Nat → Option Callee} {l : List FuncId} {f : AFun} {g : FuncId} {fn : Func}

theorem enters_of (hg : P.funcs[g]? = some fn) (hnm : (fn.name == "runtime.NumGoroutine") = false) (hb : fn.body.isNone = false) : ∃ fn, P.funcs[g]? = some fn ∧ (fn.name == "runtime.NumGoroutine") = false ∧ fn.body.isNone = false := ⟨fn, hg, hnm, hb⟩

theorem draws (h : CallsTied P calls l 0) : DrawSound P calls (fun nt => drawOK P calls (fidsOf l) nt) := fun _ its ops hd => draw_sound h.ok its ops hd

theorem tie_full (h : CallsTied P calls l 0) (hg : P.funcs[g]? = some fn) (hnm : (fn.name == "runtime.NumGoroutine") = false) (hb : fn.body.isNone = false) (ok : chkFn P calls l f fn = true) {F : TL f.ps → Heap → Option (TL f.rs × Heap)} (he : evFull calls f = F) :
    Tied P (.full f.ps f.rs F) g := by
  subst he
  exact ⟨full_sound h.ok (draws h) hg ok, enters_of hg hnm hb⟩
theorem tie_quiet (h : CallsTied P calls l 0) (hg : P.funcs[g]? = some fn) (hnm : (fn.name == "runtime.NumGoroutine") = false) (hb : fn.body.isNone = false) (ok : chkFn P calls l f fn = true) (hr : f.rs.all flatTy = true) {F : TL f.ps → Heap → Option (TL f.rs)} (he : evQuiet calls f = F) :
    Tied P (.quiet f.ps f.rs F) g := by
  subst he
  exact ⟨quiet_sound h.ok (draws h) hg ok hr, enters_of hg hnm hb⟩
theorem tie_pure (h : CallsTied P calls l 0) (hg : P.funcs[g]? = some fn) (hnm : (fn.name == "runtime.NumGoroutine") = false) (hb : fn.body.isNone = false) (ok : chkFn P calls l f fn = true) (hp : f.ps.all flatTy = true) (hr : f.rs.all flatTy = true)
    {F : TL f.ps → Heap → Option (TL f.rs)} (he : evPure calls f = F) : Tied P (.pure f.ps f.rs fun x => F x []) g := by
  subst he
  exact ⟨pure_sound h.ok (draws h) hg ok hp hr, enters_of hg hnm hb⟩
end
end Ev
