/- Slices that grow round by round, beside other things. -/
import Derived.Test.YtfmefnejaocopaaAp
import Derived.Test.YtfmefnejaocopaaUp
import Derived.Test.YtfmefnejaocopaaRw
import Derived.Test.YtfmefnejaocopaaTl
set_option linter.unusedSimpArgs false
set_option linter.unusedVariables false
namespace Ev
open Go (IntKind)

theorem Keep.trans2 {F G : Nat → Prop} {A B D : Heap} (h : Keep F A B) (k : Keep G B D) (hg : ∀ b, b < A.length → G b → F b) : Keep F A D :=
  ⟨Nat.le_trans h.len k.len, fun j hj hf => (k.same j (Nat.lt_of_lt_of_le hj h.len) fun g => hf (hg j hj g)).trans (h.same j hj hf)⟩
/-- What has come of s0 in H: only its own block may have changed. -/
structure Em (H : Heap) (s0 : Sl) (es : Nat) (G : Heap) (s : Sl) (cs : List C) : Prop where
  g : Grown G es s cs
  k : Keep (fun b => ∃ o, s0.p = some (b, o)) H G
  o : ∀ a, s.p = some a → H.length ≤ a.1 ∨ ∃ o, s0.p = some (a.1, o)
section
variable {H : Heap} {s0 : Sl} {es : Nat} {G : Heap} {s : Sl} {cs : List C}
theorem Em.start (h : Grown H es s0 cs) : Em H s0 es H s0 cs := ⟨h, Keep.refl _ _, fun a ha => .inr ⟨a.2, ha⟩⟩
theorem Em.keep (h : Em H s0 es G s cs) {F : Nat → Prop} {G' : Heap} (k : Keep F G G') (hF : ∀ b, F b → H.length ≤ b ∧ ∀ o, s.p ≠ some (b, o)) : Em H s0 es G' s cs :=
  ⟨h.g.mono fun a ha => k.same _ (h.g.lt ha) fun hf => (hF _ hf).2 a.2 ha, h.k.trans2 k fun b hb hf => absurd (hF b hf).1 (by omega), h.o⟩
theorem Em.push (h : Em H s0 es G s cs) (t : Heap) : Em H s0 es (G ++ t) s cs := h.keep (Keep.app (fun _ => False) G t) fun _ hf => hf.elim
theorem grownH_keep (G : Heap) (s : Sl) (cs : List C) : Keep (fun b => ∃ o, s.p = some (b, o)) G (grownH G s cs) :=
  ⟨by rw [grownH_length]; omega, fun _ hk hf => grownH_get hk fun a ha e => hf ⟨a.2, by rw [ha, ← e]⟩⟩
theorem Em.app (h : Em H s0 es G s cs) (hes : 0 < es) {new : List C} (hnew : new.length = es) {bytes : Nat} (hb : (s.len + 1) * bytes ≤ 35184372088832) (hb2 : s.len + 1 ≤ 35184372088832) :
    ∃ s' G', appS G es bytes s 1 new = some (s', G') ∧ Em H s0 es G' s' (cs ++ new) ∧ s'.len = s.len + 1 ∧ Keep (fun b => ∃ o, s.p = some (b, o)) G G' ∧ ∀ a, s'.p = some a → a.1 = G.length := by
  obtain ⟨h1, h2⟩ := h.g.app hes (n := 1) Nat.one_pos (by omega) hb hb2 (new := new)
  refine ⟨_, _, h1, ⟨h2, h.k.trans2 (grownH_keep _ _ _) fun b hb => ?_, fun a ha => ?_⟩, rfl, grownH_keep _ _ _, fun a ha => by cases ha; rfl⟩
  · rintro ⟨o, ho⟩
    rcases h.o _ ho with hh | hh
    · exact absurd hh (by simp only; omega)
    · exact hh
  · cases ha
    exact .inl h.k.len
theorem Em.under {K : Heap} (h : Em K s0 es G s cs) (k : Keep (fun b => ∃ o, s0.p = some (b, o)) H K) : Em H s0 es G s cs :=
  ⟨h.g, k.trans h.k, fun a ha => (h.o a ha).imp_left fun hh => Nat.le_trans k.len hh⟩
theorem Em.calm (h : Em H s0 es G s cs) (h0 : s0.p = none) : Keep (fun _ => False) H G := h.k.mono fun b ⟨o, ho⟩ => by rw [h0] at ho; cases ho
theorem Em.then {G' : Heap} {s' : Sl} {cs' : List C} (h : Em H s0 es G s cs) (h' : Em G s es G' s' cs') : Em H s0 es G' s' cs' :=
  ⟨h'.g, h.k.trans2 h'.k fun b hb ⟨o, ho⟩ => (h.o _ ho).elim (fun hh => absurd hh (by simp only; omega)) id, fun a ha => (h'.o a ha).elim (fun hh => .inl (Nat.le_trans h.k.len hh)) fun ⟨o, ho⟩ => h.o (a.1, o) ho⟩
/-- No other block of H is the slice's. -/
theorem Em.off (h : Em H s0 es G s cs) {b : Nat} (hb : b < H.length) (h0 : ∀ o, s0.p ≠ some (b, o)) (o : Nat) : s.p ≠ some (b, o) := by
  intro hp
  rcases h.o _ hp with hh | ⟨o', hh⟩
  · simp only at hh; omega
  · exact h0 o' hh
theorem Em.get (h : Em H s0 es G s cs) {b : Nat} {x : Blk} (hb : H[b]? = some x) (h0 : ∀ o, s0.p ≠ some (b, o)) : G[b]? = some x := h.k.get hb fun ⟨o, ho⟩ => h0 o ho
theorem Em.row (h : Em H s0 es G s cs) {es' : Nat} {s' : Sl} {row : List C} (hr : Row H es' s' row) (h0 : ∀ b o o', s'.p = some (b, o) → s0.p ≠ some (b, o')) : Row G es' s' row := hr.keep h.k fun b o hp ⟨o', ho'⟩ => h0 b o o' hp ho'
end
theorem rowsOf_snoc {cts : List CT} (l : List (Tup cts)) (x : Tup cts) : rowsOf cts (l ++ [x]) = rowsOf cts l ++ Tup.mk cts x := by simp [rowsOf]
theorem take_snoc {α : Type} {l : List α} {i : Nat} (h : i < l.length) : l.take (i + 1) = l.take i ++ [l[i]] := by
  rw [List.take_succ_eq_append_getElem h]
theorem bind_to {α β : Type} {x : Option α} {v : α} (h : x = some v) {f : α → Option β} : x.bind f = f v := by rw [h]; rfl
/-- A loop that puts something behind for each of a list. -/
theorem emit {α : Type} {H : Heap} {s0 : Sl} {es : Nat} {step : Sl × Int × Unit → Heap → Option (((Sl × Int × Unit) ⊕ (Sl × Unit)) × Heap)} (l : List α) (f : α → List C) {cs0 : List C} (h0 : Em H s0 es H s0 cs0)
    (hs : ∀ (i : Nat) (hi : i < l.length) s G cs, Em H s0 es G s cs → s.len = s0.len + i → ∃ s' G', step (s, (i : Int), ()) G = some (.inl (s', ((i + 1 : Nat) : Int), ()), G') ∧ Em H s0 es G' s' (cs ++ f l[i]) ∧ s'.len = s.len + 1)
    (he : ∀ s G, step (s, (l.length : Int), ()) G = some (.inr (s, ()), G)) :
    ∃ s G, loopW step (s0, 0, ()) H = some ((s, ()), G) ∧ Em H s0 es G s (cs0 ++ (l.map f).flatten) ∧ s.len = s0.len + l.length := by
  obtain ⟨x, G, g1, s, rfl, g2⟩ := loop_rise (step := step) l.length (fun i y G => ∃ s, y = (s, (i : Int), ()) ∧ Em H s0 es G s (cs0 ++ ((l.take i).map f).flatten) ∧ s.len = s0.len + i) (fun x G => ∃ s, x = (s, ()) ∧ Em H s0 es G s (cs0 ++ (l.map f).flatten) ∧ s.len = s0.len + l.length)
    (fun i y G hi ⟨s, hy, hE, hn⟩ => by
      subst hy
      obtain ⟨s', G', g1, g2, g3⟩ := hs i hi s G _ hE hn
      refine .inl ⟨_, G', g1, s', rfl, ?_, by omega⟩
      rw [take_snoc hi, List.map_append, List.flatten_append, ← List.append_assoc]
      simpa using g2)
    (fun y G ⟨s, hy, hE, hn⟩ => by
      subst hy
      refine ⟨_, G, he s G, s, rfl, ?_, hn⟩
      rwa [List.take_length] at hE) (y := (s0, 0, ())) (H := H) ⟨s0, rfl, by simpa using h0, rfl⟩
  exact ⟨s, G, g1, g2⟩
/-- The same, with several rows a round. -/
theorem emitN {α : Type} {H : Heap} {s0 : Sl} {es : Nat} {step : Sl × Int × Unit → Heap → Option (((Sl × Int × Unit) ⊕ (Sl × Unit)) × Heap)} (l : List α) (f : α → List C) (m : α → Nat) {cs0 : List C} (h0 : Em H s0 es H s0 cs0)
    (hs : ∀ (i : Nat) (hi : i < l.length) s G cs, Em H s0 es G s cs → s.len = s0.len + ((l.take i).map m).sum → ∃ s' G', step (s, (i : Int), ()) G = some (.inl (s', ((i + 1 : Nat) : Int), ()), G') ∧ Em H s0 es G' s' (cs ++ f l[i]) ∧ s'.len = s.len + m l[i])
    (he : ∀ s G cs, Em H s0 es G s cs → step (s, (l.length : Int), ()) G = some (.inr (s, ()), G)) :
    ∃ s G, loopW step (s0, 0, ()) H = some ((s, ()), G) ∧ Em H s0 es G s (cs0 ++ (l.map f).flatten) ∧ s.len = s0.len + (l.map m).sum := by
  obtain ⟨x, G, g1, s, rfl, g2⟩ := loop_rise (step := step) l.length (fun i y G => ∃ s, y = (s, (i : Int), ()) ∧ Em H s0 es G s (cs0 ++ ((l.take i).map f).flatten) ∧ s.len = s0.len + ((l.take i).map m).sum) (fun x G => ∃ s, x = (s, ()) ∧ Em H s0 es G s (cs0 ++ (l.map f).flatten) ∧ s.len = s0.len + (l.map m).sum)
    (fun i y G hi ⟨s, hy, hE, hn⟩ => by
      subst hy
      obtain ⟨s', G', g1, g2, g3⟩ := hs i hi s G _ hE hn
      refine .inl ⟨_, G', g1, s', rfl, ?_, ?_⟩
      · rw [take_snoc hi, List.map_append, List.flatten_append, ← List.append_assoc]
        simpa using g2
      · rw [take_snoc hi, List.map_append, List.sum_append, g3, hn]
        simp; omega)
    (fun y G ⟨s, hy, hE, hn⟩ => by
      subst hy
      rw [List.take_length] at hE hn
      exact ⟨_, G, he s G _ hE, s, rfl, hE, hn⟩) (y := (s0, 0, ())) (H := H) ⟨s0, rfl, by simpa using h0, by simp⟩
  exact ⟨s, G, g1, g2⟩
theorem ptrs_of : ∀ (n : Nat) (x : Ptrs n), Ptrs.of n (Ptrs.list n x) = some x
  | 0, () => rfl
  | n + 1, (p, x) => by
    show (Ptrs.of n (Ptrs.list n x)).bind _ = _
    rw [ptrs_of n x]; rfl
theorem un_of (t : CT) (x : t.T) : t.un (t.mk x) = some x := by
  cases t with
  | int k =>
    show (bif decide (k = k) then some x else none) = _
    rw [decide_eq_true rfl]; rfl
  | sl es =>
    show (bif decide (es = es) then some x else none) = _
    rw [decide_eq_true rfl]; rfl
  | fn g =>
    show (bif decide (g = g) then some () else none) = _
    rw [decide_eq_true rfl]; rfl
  | clo g n =>
    show (bif decide (g = g) then Ptrs.of n (Ptrs.list n x) else none) = _
    rw [decide_eq_true rfl]; exact ptrs_of n x
  | _ => rfl
theorem tup_un_of : ∀ (ts : List CT) (x : Tup ts), Tup.un ts (Tup.mk ts x) = some x
  | [], () => rfl
  | t :: r, (y, x) => by
    show (t.un (t.mk y)).bind _ = _
    rw [un_of]
    show (Tup.un r (Tup.mk r x)).bind _ = _
    rw [tup_un_of r x]; rfl
/-- One of a row of structs. -/
theorem Row.rd {H : Heap} {cts : List CT} {s : Sl} {rows : List (Tup cts)} (h : Row H cts.length s (rowsOf cts rows)) {i : Nat} (hi : i < rows.length) (hpos : 0 < cts.length) : ∃ b o, Sl.at cts.length s (i : Int) = some (b, o) ∧ rd H (.agg cts) b o = some rows[i] ∧ (∃ o', s.p = some (b, o')) ∧ ∃ cs bk, H[b]? = some (.cells cs bk) ∧ o + cts.length ≤ cs.length ∧ (cs.drop o).take cts.length = Tup.mk cts rows[i] := by
  obtain ⟨b, o, _, h1, h2, cs, bk, h3, h4, h5⟩ := h.at hi hpos
  exact ⟨b, o, h1, rd_agg_of h3 h4 (by rw [h5]; exact tup_un_of _ _), h2, cs, bk, h3, h4, h5⟩
end Ev
