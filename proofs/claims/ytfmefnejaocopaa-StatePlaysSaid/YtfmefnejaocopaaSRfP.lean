/- Lists into which something is put in order; slices that grow so. -/
import Derived.Test.YtfmefnejaocopaaSSta
import Derived.Test.YtfmefnejaocopaaEm
set_option linter.unusedSimpArgs false
set_option linter.unusedVariables false
namespace Ev
open Go (IntKind)

section
variable {α : Type}
/-- Is it put, once l was looked at? -/
def putI (k : Int) (l : List (Int × α)) : Bool := l.any fun x => decide (k ≤ x.1)
def outI (k : Int) (v : α) (l : List (Int × α)) : List (Int × α) := if putI k l = true then ains l k v else l
theorem ains_snoc {l : List (Int × α)} {k : Int} (v : α) (h : ∀ x ∈ l, x.1 < k) : ains l k v = l ++ [(k, v)] := by
  induction l with
  | nil => rfl
  | cons x l ih =>
    have := h x (by simp)
    rw [ains, if_neg (by omega), if_neg (by omega), ih fun y hy => h y (by simp [hy])]; rfl
theorem ains_app {l : List (Int × α)} {k : Int} (v : α) {x : Int × α} (h : Asc (l ++ [x])) (hp : putI k l = true) : ains (l ++ [x]) k v = ains l k v ++ (if x.1 = k then [] else [x]) := by
  induction l with
  | nil => cases hp
  | cons y l ih =>
    have hyx : y.1 < x.1 := h.head (by simp)
    rw [List.cons_append, ains, ains]
    by_cases e : k < y.1
    · rw [if_pos e, if_pos e, if_neg (by omega)]; rfl
    · rw [if_neg e, if_neg e]
      by_cases e2 : y.1 = k
      · rw [if_pos e2, if_pos e2, if_neg (by omega)]; rfl
      · rw [if_neg e2, if_neg e2]
        have hp' : putI k l = true := by
          unfold putI at hp ⊢
          rw [List.any_cons, Bool.or_eq_true] at hp
          exact hp.resolve_left (by simp; omega)
        rw [ih h.tail hp']; rfl
theorem putI_false {k : Int} {l : List (Int × α)} (h : putI k l = false) : ∀ x ∈ l, x.1 < k := fun x hx => by
  unfold putI at h
  rw [List.any_eq_false] at h
  have := h x hx
  simp at this; exact this
/-- One more is looked at. -/
theorem outI_snoc {l : List (Int × α)} {k : Int} (v : α) {x : Int × α} (h : Asc (l ++ [x])) :
    putI k (l ++ [x]) = (putI k l || decide (k ≤ x.1)) ∧ outI k v (l ++ [x]) = outI k v l ++ (if putI k l = false ∧ k ≤ x.1 then [(k, v)] else []) ++ (if x.1 = k then [] else [x]) := by
  have h1 : putI k (l ++ [x]) = (putI k l || decide (k ≤ x.1)) := by unfold putI; rw [List.any_append]; simp
  refine ⟨h1, ?_⟩
  unfold outI
  rw [h1]
  cases hp : putI k l with
  | true =>
    rw [Bool.true_or, if_pos rfl, if_pos rfl, if_neg (fun hh => by cases hh.1), List.append_nil, ains_app v h hp]
  | false =>
    have hl := putI_false hp
    rw [Bool.false_or]
    by_cases e : k ≤ x.1
    · rw [if_pos (decide_eq_true e), if_neg (by decide), if_pos ⟨rfl, e⟩]
      clear h1 hp h
      induction l with
      | nil =>
        show ains [x] k v = [(k, v)] ++ _
        rw [ains]
        by_cases e2 : k < x.1
        · rw [if_pos e2, if_neg (by omega)]; rfl
        · rw [if_neg e2, if_pos (by omega), if_pos (by omega)]; rfl
      | cons y l ih =>
        have := hl y (by simp)
        rw [List.cons_append, ains, if_neg (by omega), if_neg (by omega), ih fun z hz => hl z (by simp [hz])]; rfl
    · rw [decide_eq_false e, if_neg (by decide), if_neg (by decide), if_neg (fun hh => e hh.2), List.append_nil, if_neg (by omega)]
theorem outI_all (k : Int) (v : α) (l : List (Int × α)) : (outI k v l ++ if putI k l = false then [(k, v)] else []) = ains l k v := by
  unfold outI
  cases hp : putI k l with
  | true => rw [if_pos rfl, if_neg (by decide), List.append_nil]
  | false => rw [if_neg (by decide), if_pos rfl, ains_snoc v (putI_false hp)]
end
section
variable {H : Heap} {s0 : Sl} {es : Nat} {G : Heap} {s : Sl} {cs : List C}
theorem Em.add (h : Em H s0 es G s cs) (t : Heap) (hes : 0 < es) {new : List C} (hnew : new.length = es) {bytes : Nat} (hb : (s.len + 1) * bytes ≤ 35184372088832) (hb2 : s.len + 1 ≤ 35184372088832) :
    ∃ s' G', appS (G ++ t) es bytes s 1 new = some (s', G') ∧ Em H s0 es G' s' (cs ++ new) ∧ s'.len = s.len + 1 ∧ ∀ b, b < (G ++ t).length → (∀ o, s.p ≠ some (b, o)) → G'[b]? = (G ++ t)[b]? := by
  obtain ⟨s', G', h1, h2, h3, h4, _⟩ := (h.push t).app hes hnew hb hb2
  exact ⟨s', G', h1, h2, h3, fun b hb ho => h4.same b hb fun ⟨o, hp⟩ => ho o hp⟩
/-- A loop that puts out rows, and knows of one thing whether it is put. -/
theorem emitI {cts : List CT} {step : Sl × Bool × Int × Unit → Heap → Option (((Sl × Bool × Int × Unit) ⊕ (Sl × Bool × Unit)) × Heap)} (n : Nat) (out : Nat → List (Tup cts)) (put : Nat → Bool) (h0 : Em H s0 es H s0 []) (hz : s0.len = 0) (ho : out 0 = []) (hp : put 0 = false)
    (hs : ∀ i, i < n → ∀ s G, Em H s0 es G s (rowsOf cts (out i)) → s.len = (out i).length → ∃ s' G', step (s, put i, (i : Int), ()) G = some (.inl (s', put (i + 1), ((i + 1 : Nat) : Int), ()), G') ∧ Em H s0 es G' s' (rowsOf cts (out (i + 1))) ∧ s'.len = (out (i + 1)).length)
    (he : ∀ s G, Em H s0 es G s (rowsOf cts (out n)) → step (s, put n, (n : Int), ()) G = some (.inr (s, put n, ()), G)) :
    ∃ s G, loopW step (s0, false, 0, ()) H = some ((s, put n, ()), G) ∧ Em H s0 es G s (rowsOf cts (out n)) ∧ s.len = (out n).length := by
  obtain ⟨x, G, g1, s, rfl, g2⟩ := loop_rise (step := step) n (fun i y G => ∃ s, y = (s, put i, (i : Int), ()) ∧ Em H s0 es G s (rowsOf cts (out i)) ∧ s.len = (out i).length) (fun x G => ∃ s, x = (s, put n, ()) ∧ Em H s0 es G s (rowsOf cts (out n)) ∧ s.len = (out n).length)
    (fun i y G hi ⟨s, hy, hE, hn⟩ => by
      subst hy
      obtain ⟨s', G', g1, g2, g3⟩ := hs i hi s G hE hn
      exact .inl ⟨_, G', g1, s', rfl, g2, g3⟩)
    (fun y G ⟨s, hy, hE, hn⟩ => by
      subst hy
      exact ⟨_, G, he s G hE, s, rfl, hE, hn⟩) (y := (s0, false, 0, ())) (H := H) ⟨s0, by rw [hp]; rfl, by rw [ho]; exact h0, by rw [ho, hz]; rfl⟩
  exact ⟨s, G, g1, g2⟩
end
end Ev
