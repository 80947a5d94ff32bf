/- A row that grows where it lies: its block goes on under a new number. -/
import Derived.Test.YtnndecgjcgpmbaaEvOpD
namespace Ev
open Go

def HeapKill (H H1 : Heap) : Prop := H1 = H ∨ ∃ (b : Nat) (cs : List C), H[b]? = some (Blk.cells cs .loose) ∧ H1 = List.set H b Blk.dead
theorem HeapKill.length {H H1 : Heap} (h : HeapKill H H1) : H1.length = H.length := by
  rcases h with rfl | ⟨b, cs, _, rfl⟩
  · rfl
  · simp
theorem HeapKill.get {H H1 : Heap} (h : HeapKill H H1) {b : Nat} {cs : List C} {bk : BK} (hb : H1[b]? = some (Blk.cells cs bk)) : H[b]? = some (Blk.cells cs bk) := by
  rcases h with rfl | ⟨b0, cs0, h0, rfl⟩
  · exact hb
  · by_cases e : b = b0
    · subst e
      have hl : b < H.length := (List.getElem?_eq_some_iff.1 h0).1
      rw [List.getElem?_set_self hl] at hb; cases hb
    · rwa [List.getElem?_set_ne (Ne.symm e)] at hb
theorem HeapKill.mp {H H1 : Heap} (h : HeapKill H H1) {b : Nat} {es : List (C × W)} (hb : H1[b]? = some (Blk.mp es)) : H[b]? = some (Blk.mp es) := by
  rcases h with rfl | ⟨b0, cs0, h0, rfl⟩
  · exact hb
  · by_cases e : b = b0
    · subst e
      have hl : b < H.length := (List.getElem?_eq_some_iff.1 h0).1
      rw [List.getElem?_set_self hl] at hb; cases hb
    · rwa [List.getElem?_set_ne (Ne.symm e)] at hb
theorem HeapKill.wrB {H H1 : Heap} (h : HeapKill H H1) {b : Nat} (hb : wrB H1 b) : wrB H b := by
  obtain ⟨cs, bk, h1, h2⟩ := hb
  exact ⟨cs, bk, h.get h1, h2⟩

theorem growKill_spec {H H1 : Heap} {es : Nat} {s : Sl} (h : growKill H es s = some H1) : HeapKill H H1 := by
  unfold growKill at h
  split at h
  · cases h; exact .inl rfl
  · rename_i a ha
    split at h
    · rename_i cs hb
      by_cases e : a.2 + s.cap * es = cs.length
      · simp [e] at h; exact .inr ⟨a.1, cs, hb, h.symm⟩
      · simp [e] at h; exact .inl h.symm
    · rename_i cs hb
      by_cases e : a.2 + s.cap * es = cs.length
      · simp [e] at h
      · simp [e] at h; exact .inl h.symm
    · cases h; exact .inl rfl
    · cases h

theorem R.kill {ρ : Rho} {H H1 : Heap} {w : World} (r : R ρ H w) (h : HeapKill H H1) : R ρ H1 w :=
  ⟨fun b pl hb => by rw [h.length]; exact r.dom b pl hb, fun b pl acs bk h1 h2 => r.blk b pl acs bk h1 (h.get h2),
    fun b b' pl pl' a a' k k' hne h1 h1' h2 h2' hr => r.sep b b' pl pl' a a' k k' hne h1 h1' (h.get h2) (h.get h2') hr, fun b es hb => r.nomap b es (h.mp hb)⟩

theorem Ext.kill {ρ ρ' : Rho} {H H1 H' : Heap} {w w' : World} (h : HeapKill H H1) (x : Ext ρ H1 w ρ' H' w') : Ext ρ H w ρ' H' w' where
  le := x.le
  len := by rw [← h.length]; exact x.len
  new := fun b pl h1 h2 => by
    obtain ⟨g1, g2⟩ := x.new b pl h1 h2
    rw [h.length] at g1
    refine ⟨g1, g2.imp id ?_⟩
    rintro ⟨b0, pl0, q1, q2, q3⟩
    exact ⟨b0, pl0, q1, h.wrB q2, q3⟩
  wr := fun b hb hw => h.wrB (x.wr b (by rw [h.length]; exact hb) hw)
  size := x.size
  os := x.os
  tape := x.tape
  output := x.output
  frame := fun j hj hno => x.frame j hj fun b pl h1 h2 h3 => hno b pl h1 h2 (h.wrB h3)

theorem setV_end : ∀ (us l : List Value) (o : Nat), o + us.length = l.length → setV l o us = l.take o ++ us
  | [], l, o, h => by simp at h; subst h; simp [setV]
  | u :: r, l, o, h => by
    simp at h
    have ho : o < l.length := by omega
    simp only [setV]
    rw [setV_end r (l.set o u) (o + 1) (by simp; omega)]
    have : (l.set o u).take (o + 1) = l.take o ++ [u] := by
      rw [List.take_succ_eq_append_getElem (by simpa using ho), List.take_set, List.getElem_set_self]
      congr 1
      exact List.set_eq_of_length_le (by simp; omega)
    rw [this]
    simp

/-- The block b, loose, grows where it lies. -/
theorem R.regrow' {ρ : Rho} {H : Heap} {w : World} (r : R ρ H w) {b o m : Nat} {pl : Pl} {cs old new : List C} {news : List Value} (hρ : ρ b = some pl) (hb : H[b]? = some (Blk.cells cs .loose))
    (hold : H.row b o m = some old) (hnew : CsRel ρ new news) (hfit : pl.base + o + m + news.length ≤ pl.n2) :
    ∃ vs el fr, w.heap[pl.k]? = some (.cells vs.toArray el fr) ∧ vs.length = pl.n2 ∧ (∀ j, fr.1 ≤ j → j < fr.2 → vs.length ≤ j) ∧
      R (ρ.set H.length ⟨pl.k, pl.base + o, (old ++ new).length, pl.n2, true⟩) (List.set H b Blk.dead ++ [Blk.cells (old ++ new) .loose]) (putRow w pl.k (.cells (setV vs (pl.base + o + m) news).toArray el fr)) ∧
      Ext ρ H w (ρ.set H.length ⟨pl.k, pl.base + o, (old ++ new).length, pl.n2, true⟩) (List.set H b Blk.dead ++ [Blk.cells (old ++ new) .loose]) (putRow w pl.k (.cells (setV vs (pl.base + o + m) news).toArray el fr)) := by
  have q := r.blk b pl cs .loose hρ hb
  obtain ⟨⟨vs, el, fr, h1, h2, h3, h4⟩, hl, hfit', hex, hlo⟩ := q
  have hk := (r.blk b pl cs .loose hρ hb).lt
  have hblt := r.dom _ _ hρ
  have hn := r.none_of_len
  have hle := Rho.le_set ⟨pl.k, pl.base + o, (old ++ new).length, pl.n2, true⟩ hn
  have hnl := hnew.length
  obtain ⟨acs, bk0, hb0, hm, hold'⟩ := row_some hold
  rw [hb] at hb0
  cases hb0
  have holdlen : old.length = m := by rw [hold']; simp; omega
  have holdrel : CsRel ρ old ((vs.drop (pl.base + o)).take m) := by
    have := (h3.drop o).take m
    rw [List.drop_take, List.drop_drop, List.take_take] at this
    rw [hold']
    rwa [Nat.min_eq_left (by omega)] at this
  have hrow : ((setV vs (pl.base + o + m) news).drop (pl.base + o)).take (old ++ new).length = (vs.drop (pl.base + o)).take m ++ news := by
    have e1 : (old ++ new).length = m + news.length := by simp; omega
    rw [e1, setV_drop, setV_take _ _ _ _ (Nat.le_refl _), setV_end]
    · rw [List.take_take, Nat.min_eq_left (by omega)]
    · simp; omega
  have hother : ∀ k, k ≠ pl.k → (putRow w pl.k (.cells (setV vs (pl.base + o + m) news).toArray el fr)).heap[k]? = w.heap[k]? := fun k hk => by
    simp only [putRow]
    rw [Array.getElem?_setIfInBounds_ne (Ne.symm hk)]
  -- a live old block is another one
  have old_get : ∀ (x : Nat) (a : List C) (k : BK), x < H.length → (List.set H b Blk.dead ++ [Blk.cells (old ++ new) .loose])[x]? = some (Blk.cells a k) → x ≠ b ∧ H[x]? = some (Blk.cells a k) := by
    intro x a k hx h
    rw [List.getElem?_append_left (by simpa using hx)] at h
    by_cases e : x = b
    · subst e; rw [List.getElem?_set_self hblt] at h; cases h
    · rw [List.getElem?_set_ne (Ne.symm e)] at h; exact ⟨e, h⟩
  refine ⟨vs, el, fr, h1, h2, fun j hj hj' => by have := h4 (by simp) j hj hj'; omega, ⟨?_, ?_, ?_, ?_⟩, ⟨hle, by simp, ?_, ?_, by simp [putRow], rfl, rfl, rfl, ?_⟩⟩
  · intro x p h
    by_cases e : x = H.length
    · subst e; simp
    · rw [Rho.set_other _ _ e] at h
      have := r.dom _ _ h
      simp; omega
  · intro x p a k h h'
    by_cases e : x = H.length
    · subst e
      rw [Rho.set_same] at h
      cases h
      rw [List.getElem?_append_right (by simp)] at h'
      simp at h'
      obtain ⟨rfl, rfl⟩ := h'
      refine ⟨⟨setV vs (pl.base + o + m) news, el, fr, ?_, by rw [setV_length]; exact h2, ?_, fun _ => h4 (by simp)⟩, rfl, by simp; omega, (fun h => by cases h), fun _ => rfl⟩
      · simp only [putRow]; rw [Array.getElem?_setIfInBounds_self_of_lt hk]
      · simp only; rw [hrow]; exact (holdrel.append hnew).mono hle
    · rw [Rho.set_other _ _ e] at h
      obtain ⟨hne, hx⟩ := old_get x a k (r.dom _ _ h) h'
      have q := r.blk _ _ _ _ h hx
      exact (q.world (hother _ (fun hk => r.sep b x pl p _ _ _ _ (Ne.symm hne) hρ h hb hx (by simp) hk.symm))).mono hle
  · intro x y p p' a a' k k' hne g1 g2 g3 g4 hr
    by_cases e : x = H.length
    · subst e
      rw [Rho.set_same] at g1
      cases g1
      rw [Rho.set_other _ _ (Ne.symm hne)] at g2
      obtain ⟨hyb, hy⟩ := old_get y a' k' (r.dom _ _ g2) g4
      exact r.sep b y pl p' _ _ _ _ (Ne.symm hyb) hρ g2 hb hy (by simp)
    · rw [Rho.set_other _ _ e] at g1
      obtain ⟨hxb, hx⟩ := old_get x a k (r.dom _ _ g1) g3
      by_cases e' : y = H.length
      · subst e'
        rw [Rho.set_same] at g2
        cases g2
        exact fun hh => r.sep b x pl p _ _ _ _ (Ne.symm hxb) hρ g1 hb hx (by simp) hh.symm
      · rw [Rho.set_other _ _ e'] at g2
        obtain ⟨hyb, hy⟩ := old_get y a' k' (r.dom _ _ g2) g4
        exact r.sep x y p p' a a' k k' hne g1 g2 hx hy hr
  · intro x es h
    rcases Nat.lt_or_ge x H.length with hx | hx
    · rw [List.getElem?_append_left (by simpa using hx)] at h
      by_cases e : x = b
      · subst e; rw [List.getElem?_set_self hblt] at h; cases h
      · rw [List.getElem?_set_ne (Ne.symm e)] at h; exact r.nomap x es h
    · rw [List.getElem?_append_right (by simpa using hx)] at h
      rw [List.getElem?_singleton] at h
      split at h <;> cases h
  · intro x p h h'
    by_cases e : x = H.length
    · subst e
      rw [Rho.set_same] at h
      cases h
      exact ⟨Nat.le_refl _, .inr ⟨b, pl, hρ, ⟨cs, .loose, hb, by simp⟩, rfl⟩⟩
    · rw [Rho.set_other _ _ e] at h
      rw [h] at h'; cases h'
  · rintro x hx ⟨a, k, h, h'⟩
    obtain ⟨_, hx'⟩ := old_get x a k hx h
    exact ⟨a, k, hx', h'⟩
  · intro j hj hno
    exact hother j (fun e => hno b pl hρ e.symm ⟨cs, .loose, hb, by simp⟩)
end Ev
