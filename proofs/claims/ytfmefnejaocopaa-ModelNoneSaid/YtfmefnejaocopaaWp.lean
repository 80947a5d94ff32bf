/- What comes of a computation, and what holds then. -/
import Derived.Test.YtfmefnejaocopaaEm
set_option linter.unusedSimpArgs false
set_option linter.unusedVariables false
namespace Ev
open Go (IntKind)

def WP {α : Type} (x : Option α) (Q : α → Prop) : Prop := ∃ v, x = some v ∧ Q v
section
variable {α β : Type} {x : Option α} {f : α → Option β} {Q : β → Prop} {P : α → Prop}
theorem wp_some {Q : α → Prop} {v : α} (h : Q v) : WP (some v) Q := ⟨v, rfl, h⟩
theorem wp_bind (h : WP x fun v => WP (f v) Q) : WP (x.bind f) Q := by obtain ⟨v, rfl, h⟩ := h; exact h
theorem wp_seq (P : α → Prop) (h : WP x P) (k : ∀ v, P v → WP (f v) Q) : WP (x.bind f) Q := by obtain ⟨v, rfl, h⟩ := h; exact k v h
theorem wp_to {v : α} (h : x = some v) (k : WP (f v) Q) : WP (x.bind f) Q := by rw [h]; exact k
theorem wp_mono {Q' : α → Prop} (h : WP x P) (k : ∀ v, P v → Q' v) : WP x Q' := by obtain ⟨v, h1, h2⟩ := h; exact ⟨v, h1, k v h2⟩
theorem wp_of {v : α} (h : x = some v) (k : P v) : WP x P := ⟨v, h, k⟩
theorem wp_t {c : Bool} {a b : Option α} (h : c = true) (k : WP a P) : WP (cond c a b) P := by rw [h]; exact k
theorem wp_f {c : Bool} {a b : Option α} (h : c = false) (k : WP b P) : WP (cond c a b) P := by rw [h]; exact k
theorem wp_c {c : Bool} {a b : Option α} (h : c = true → WP a P) (k : c = false → WP b P) : WP (cond c a b) P := by
  cases c with
  | true => exact h rfl
  | false => exact k rfl
/-- Either way. -/
theorem wp_if {c : Bool} {p : Prop} [Decidable p] {a b : Option α} (e : c = decide p) (h : p → WP a P) (k : ¬ p → WP b P) : WP (cond c a b) P := by
  rw [e]
  by_cases hp : p
  · rw [decide_eq_true hp]; exact h hp
  · rw [decide_eq_false hp]; exact k hp
theorem wp_ite {α : Type} {p : Prop} [Decidable p] {a b : Option α} {Q : α → Prop} (h : p) (k : WP a Q) : WP (if p then a else b) Q := by rw [if_pos h]; exact k
theorem wp_get {Q : α → Prop} (h : WP x Q) : ∃ v, x = some v ∧ Q v := h
end
section
variable {S X : Type} {step : S → Heap → Option ((S ⊕ X) × Heap)}
theorem wp_rise (n : Nat) (I : Nat → S → Heap → Prop) (P : X → Heap → Prop) (hs : ∀ i y G, i < n → I i y G → WP (step y G) fun r => Sum.elim (fun y' => I (i + 1) y' r.2) (fun x => P x r.2) r.1)
    (he : ∀ y G, I n y G → WP (step y G) fun r => Sum.elim (fun _ => False) (fun x => P x r.2) r.1) {y : S} {H : Heap} (h0 : I 0 y H) : WP (loopW step y H) fun r => P r.1 r.2 := by
  obtain ⟨x, G, g1, g2⟩ := loop_rise (step := step) n I P (fun i y G hi hI => by
      obtain ⟨⟨r, G'⟩, e1, e2⟩ := hs i y G hi hI
      cases r with
      | inl y' => exact .inl ⟨y', G', e1, e2⟩
      | inr x => exact .inr ⟨x, G', e1, e2⟩)
    (fun y G hI => by
      obtain ⟨⟨r, G'⟩, e1, e2⟩ := he y G hI
      cases r with
      | inl y' => exact e2.elim
      | inr x => exact ⟨x, G', e1, e2⟩) h0
  exact ⟨(x, G), g1, g2⟩
end
section
variable {H : Heap} {s0 : Sl} {es : Nat} {G : Heap} {s : Sl} {cs : List C}
/-- A row that was just laid is put behind a slice. -/
theorem wp_app {β : Type} {f : Sl × Heap → Option β} {Q : β → Prop} (hE : Em H s0 es G s cs) {new : List C} (hnew : es = new.length) (hes : 0 < es) {bytes : Nat} (hb : (s.len + 1) * bytes ≤ 35184372088832 ∧ s.len + 1 ≤ 35184372088832)
    (k : ∀ s' G', Em H s0 es G' s' (cs ++ new) → s'.len = s.len + 1 → WP (f (s', G')) Q) :
    WP ((slRow (G ++ [.cells new .exact]) es ⟨some (G.length, 0), 1, 1⟩).bind fun c => (appS (G ++ [.cells new .exact]) es bytes s 1 c).bind f) Q := by
  obtain ⟨s', G', e1, e2, e3, _⟩ := (hE.push [.cells new .exact]).app hes hnew.symm hb.1 hb.2
  have h1 : slRow (G ++ [.cells new .exact]) es ⟨some (G.length, 0), 1, 1⟩ = some new := by
    rw [slRow_t0]; exact sl_c0 [] new .exact hnew
  exact wp_to h1 (wp_to e1 (k s' G' e2 e3))
/-- The same; other blocks stay. -/
theorem wp_appk {β : Type} {f : Sl × Heap → Option β} {Q : β → Prop} (hE : Em H s0 es G s cs) {new : List C} (hnew : es = new.length) (hes : 0 < es) {bytes : Nat} (hb : (s.len + 1) * bytes ≤ 35184372088832 ∧ s.len + 1 ≤ 35184372088832)
    (k : ∀ s' G', Em H s0 es G' s' (cs ++ new) → s'.len = s.len + 1 → (∀ b x, G[b]? = some x → (∀ o, s.p ≠ some (b, o)) → G'[b]? = some x) → (∀ b o, s'.p = some (b, o) → G.length < b) → WP (f (s', G')) Q) :
    WP ((slRow (G ++ [.cells new .exact]) es ⟨some (G.length, 0), 1, 1⟩).bind fun c => (appS (G ++ [.cells new .exact]) es bytes s 1 c).bind f) Q := by
  obtain ⟨s', G', e1, e2, e3, e4, e5⟩ := (hE.push [.cells new .exact]).app hes hnew.symm hb.1 hb.2
  have h1 : slRow (G ++ [.cells new .exact]) es ⟨some (G.length, 0), 1, 1⟩ = some new := by
    rw [slRow_t0]; exact sl_c0 [] new .exact hnew
  refine wp_to h1 (wp_to e1 (k s' G' e2 e3 (fun b x hx ho => ?_) fun b o hp => ?_))
  · exact e4.get (by rw [List.getElem?_append_left (get_lt hx)]; exact hx) fun ⟨o, hp⟩ => ho o hp
  · have := e5 _ hp
    simp only [List.length_append, List.length_cons, List.length_nil] at this
    omega
end
end Ev
