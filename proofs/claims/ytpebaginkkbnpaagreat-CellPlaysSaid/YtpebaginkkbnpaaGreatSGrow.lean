/- Slices that grow one thing at a time, the thing ahead of it in a block of its own. -/
import Derived.Test.YtpebaginkkbnpaaGreatRw
namespace Ev
open Go (IntKind)

structure GrowN (H0 G : Heap) (es : Nat) (s : Sl) (cs : List C) : Prop where
  gr : Grown G es s cs
  keep : Keep (fun _ => False) H0 G
  new : ∀ a, s.p = some a → H0.length ≤ a.1
theorem GrowN.ni {H0 G : Heap} (k : Keep (fun _ => False) H0 G) (es : Nat) : GrowN H0 G es ⟨none, 0, 0⟩ [] := ⟨Grown.ni G es, k, fun a h => by cases h⟩
theorem GrowN.em {H0 G : Heap} (k : Keep (fun _ => False) H0 G) (es : Nat) : GrowN H0 (G ++ [.cells [] .exact]) es ⟨some (G.length, 0), 0, 0⟩ [] :=
  ⟨⟨rfl, by simp, fun h => by (cases h), fun a h => by cases h; exact ⟨rfl, .inr app_last⟩⟩, k.trans (Keep.push _ _ _), fun a h => by cases h; exact k.len⟩
theorem GrowN.more {H0 G : Heap} {es : Nat} {s : Sl} {cs : List C} (g : GrowN H0 G es s cs) (x : Blk) : GrowN H0 (G ++ [x]) es s cs :=
  ⟨g.gr.push x, g.keep.trans (Keep.push _ _ _), g.new⟩
theorem GrowN.stay {H0 G G' : Heap} {es : Nat} {s : Sl} {cs : List C} (g : GrowN H0 G es s cs) {F : Nat → Prop} (k : Keep F G G') (hF : ∀ j, F j → j < G.length → H0.length ≤ j ∧ ∀ a, s.p = some a → a.1 ≠ j) : GrowN H0 G' es s cs := by
  refine ⟨g.gr.mono fun a ha => k.same _ (g.gr.lt ha) (fun h => (hF _ h (g.gr.lt ha)).2 a ha rfl), ⟨Nat.le_trans g.keep.len k.len, fun j hj _ => ?_⟩, g.new⟩
  have h1 := g.keep.len
  rw [k.same j (by omega) (fun h => by have := (hF j h (by omega)).1; omega), g.keep.same j hj id]
theorem GrowN.stay0 {H0 G G' : Heap} {es : Nat} {s : Sl} {cs : List C} (g : GrowN H0 G es s cs) (k : Keep (fun _ => False) G G') : GrowN H0 G' es s cs := g.stay k fun _ h => h.elim
theorem grownH_keep {G : Heap} {s : Sl} {cs : List C} : Keep (fun k => ∃ o, s.p = some (k, o)) G (grownH G s cs) :=
  ⟨by rw [grownH_length]; omega, fun j hj hF => grownH_get hj fun a ha e => hF ⟨a.2, by rw [ha, ← e]⟩⟩
theorem GrowN.one {H0 G : Heap} {es bytes : Nat} {s : Sl} {cs new : List C} (g : GrowN H0 G es s cs) (hes : 0 < es) (hn : new.length = es) (hb : (s.len + 1) * bytes ≤ 35184372088832) (hb2 : s.len + 1 ≤ 35184372088832) :
    ∃ s' G', slRow (G ++ [.cells new .exact]) es ⟨some (G.length, 0), 1, 1⟩ = some new ∧ appS (G ++ [.cells new .exact]) es bytes s 1 new = some (s', G') ∧ GrowN H0 G' es s' (cs ++ new) ∧ s'.len = s.len + 1 ∧ Keep (fun k => ∃ o, s.p = some (k, o)) G G' ∧ ∃ b, s'.p = some (b, 0) ∧ G.length < b := by
  have gp := g.gr.push (.cells new .exact)
  obtain ⟨a1, a2⟩ := gp.app (bytes := bytes) hes (n := 1) (new := new) (by decide) (by omega) hb hb2
  have kk : Keep (fun k => ∃ o, s.p = some (k, o)) G (grownH (G ++ [.cells new .exact]) s (cs ++ new)) := (Keep.push _ _ _).trans grownH_keep
  refine ⟨_, _, row_last (by omega), a1, ⟨a2, ?_, fun a ha => ?_⟩, rfl, kk, _, rfl, by simp⟩
  · have h1 := g.keep.len
    refine ⟨Nat.le_trans h1 kk.len, fun j hj _ => ?_⟩
    rw [kk.same j (by omega) (fun ⟨o, ho⟩ => by have := g.new _ ho; simp only at this; omega), g.keep.same j hj id]
  · cases ha
    have h1 := g.keep.len
    simp; omega
theorem GrowN.row {H0 G : Heap} {es : Nat} {s : Sl} {cs : List C} (g : GrowN H0 G es s cs) : Row G es s cs := Row.grown g.gr

/-- One text of a slice. -/
theorem Row.txt {H : Heap} {s : Sl} {l : List Bytes} (h : Row H 1 s (l.map C.str)) {i : Nat} (hi : i < l.length) : ∃ b o, Sl.at 1 s (i : Int) = some (b, o) ∧ rdS H b o = some l[i] ∧ b < H.length ∧ s.p = some (b, o - i) := by
  have hl := h.len
  simp at hl
  obtain ⟨b, o, hp, h1, cs, bk, h2, h3, h4⟩ := slRow_cell h.row (i := i) (by omega) h.nil
  refine ⟨b, o + i, by simpa using h1, rdS_of h2 ?_, get_lt h2, by rw [hp]; simp⟩
  have := h4 0 (by decide)
  simp only [Nat.mul_one, Nat.add_zero] at this
  rw [this]
  simp [hi]
theorem Row.txt_len {H : Heap} {s : Sl} {l : List Bytes} (h : Row H 1 s (l.map C.str)) : s.len = l.length := by
  have hl := h.len
  simp at hl; omega
theorem GrowN.set {H0 G : Heap} {s : Sl} {cs : List C} (g : GrowN H0 G 1 s cs) {i : Nat} (hi : i < cs.length) (c : C) : ∃ b G', s.p = some (b, 0) ∧ Sl.at 1 s (i : Int) = some (b, i) ∧ wr G b i [c] = some G' ∧ GrowN H0 G' 1 s (cs.set i c) := by
  obtain ⟨p, len, cap⟩ := s
  have hl := g.gr.len
  have hl' : cs.length = len := by have : cs.length = len * 1 := hl; omega
  cases p with
  | none =>
    have : len = 0 := g.gr.nil rfl
    omega
  | some a =>
    obtain ⟨c0, o⟩ := a
    obtain ⟨ho, hb⟩ := g.gr.blk _ rfl
    have ho' : o = 0 := ho
    subst ho'
    have hat : Sl.at 1 ⟨some (c0, 0), len, cap⟩ (i : Int) = some (c0, i) := by rw [at_of (by omega) (by show (i : Int) < (len : Int); omega), Int.toNat_natCast, Nat.mul_one, Nat.zero_add]
    have hn := g.new (c0, 0) rfl
    have kk : ∀ (bk : BK), Keep (fun j => j = c0) G (G.set c0 (.cells (cs.set i c) bk)) := fun bk => Keep.set _ _ _ rfl
    have keep' : ∀ (bk : BK), Keep (fun _ => False) H0 (G.set c0 (.cells (cs.set i c) bk)) := fun bk => by
      have h1 := g.keep.len
      refine ⟨by simp; omega, fun j hj _ => ?_⟩
      have hn' : H0.length ≤ c0 := hn
      rw [set_get' (by omega), g.keep.same j hj id]
    rcases hb with hb | hb
    · have hb' : G[c0]? = some (.cells cs .loose) := hb
      refine ⟨c0, _, rfl, hat, wr1_of hb' (by decide) hi, ⟨g.gr.cap, by rw [List.length_set]; exact hl, g.gr.nil, fun a ha => by cases ha; exact ⟨rfl, .inl (set_get (get_lt hb'))⟩⟩, keep' _, g.new⟩
    · have hb' : G[c0]? = some (.cells cs .exact) := hb
      refine ⟨c0, _, rfl, hat, wr1_of hb' (by decide) hi, ⟨g.gr.cap, by rw [List.length_set]; exact hl, g.gr.nil, fun a ha => by cases ha; exact ⟨rfl, .inr (set_get (get_lt hb'))⟩⟩, keep' _, g.new⟩

end Ev
