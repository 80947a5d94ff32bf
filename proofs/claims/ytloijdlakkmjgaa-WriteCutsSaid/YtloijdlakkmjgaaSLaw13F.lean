/- Chapter 13: as many pages as there is room for. -/
import Derived.Test.YtloijdlakkmjgaaSLaw13m
namespace Ev
open Go (IntKind)

theorem begun13n (H : Heap) (g : Geo) : ∃ H' a e z, law13_Begun g (⟨none, 0, 0⟩, ⟨none, 0, 0⟩, ⟨none, 0, 0⟩, ()) H = some ((some (a.c, 0), some (z.w, 0), true, ()), H') ∧ WrAt (fun k => k < H.length) H' z a e (Nd.new [] [] []) Wr.new ⟨none, 0, 0⟩ ∧ Keep (fun _ => False) H H' ∧ (8 ≤ a.B ∧ a.B ≤ 15 ∧ 4 ≤ a.P ∧ a.P ≤ 11 ∧ 64 ≤ a.S ∧ a.S ≤ 127) ∧
    WInv a (Nd.new [] [] []) Wr.new ∧ Wf a (Nd.new [] [] []) 0 := by
  obtain ⟨H1, a, e, z, b1, b2, b3, hb⟩ := begun13 (H := H) (f1 := ⟨none, 0, 0⟩) (f2 := ⟨none, 0, 0⟩) (f3 := ⟨none, 0, 0⟩) (t1 := ⟨none, 0, 0⟩) (t2 := ⟨none, 0, 0⟩) (cuts := []) (fails := []) g rfl rfl (Row.ni H 3 0) (Row.ni H 1 0) (by decide) (by decide)
  exact ⟨H1, a, e, z, b1, b2, b3, hb, WInv.new a [] (by omega), Wf.new' (fun x hx => by cases hx) (by omega)⟩

/-- Blocks that are written one behind the other; q pages of block b stand. -/
structure FllV (a : NdA) (v : Wr) (b q : Nat) : Prop where
  l : ∀ i, i < a.B → v.lf.l i = if i < b then 2 else if i = b ∧ 0 < q then 1 else 0
  op : v.lf.op = if 0 < q then (b : Int) else -1
  nx : 0 < q → v.lf.nx = q
  q : q < a.P
  worn : ∀ i, v.worn i = 0
  bad : v.bad = []
theorem FllV.new (a : NdA) (hP : 0 < a.P) : FllV a Wr.new 0 0 :=
  ⟨fun i _ => by rw [if_neg (by omega), if_neg (by omega)]; rfl, rfl, fun h => absurd h (by omega), hP, fun _ => rfl, rfl⟩
theorem FllV.nxt {a : NdA} {e : LfA} {v : Wr} {b q : Nat} (f : FllV a v b q) (eB : e.B = a.B) (hb : b < a.B) : Nxt e v b ∧ (v.opn b).lf.nx = q ∧ (v.opn b).lf.op = (b : Int) ∧ (∀ i, i < a.B → (v.opn b).lf.l i = if i < b then 2 else if i = b then 1 else 0) ∧ (v.opn b).worn = v.worn ∧ (v.opn b).bad = v.bad := by
  have hop := f.op
  by_cases hq : 0 < q
  · rw [if_pos hq] at hop
    have ho : v.opn b = v := by unfold Wr.opn; rw [if_neg (by omega)]
    rw [ho]
    refine ⟨.inl hop, f.nx hq, hop, fun i hi => ?_, rfl, rfl⟩
    rw [f.l i hi]
    simp [hq]
  · rw [if_neg hq] at hop
    have ho : v.opn b = { v with lf := ⟨upd v.lf.l b 1, (b : Int), 0⟩ } := by unfold Wr.opn; rw [if_pos (by omega)]
    rw [ho]
    refine ⟨.inr ⟨by omega, by omega, ?_, fun c hc hc0 => ⟨by rw [f.worn, f.worn]; exact Int.le_refl _, fun hlt => ?_⟩⟩, by show 0 = q; omega, rfl, fun i hi => ?_, rfl, rfl⟩
    · rw [f.l b hb, if_neg (by omega), if_neg (by omega)]
    · rw [f.l c (by omega), if_pos hlt] at hc0; omega
    · show upd v.lf.l b 1 i = _
      unfold upd
      by_cases hi2 : i = b
      · rw [if_pos hi2, if_neg (by omega), if_pos hi2]
      · rw [if_neg hi2, f.l i hi, if_neg (show ¬ (i = b ∧ 0 < q) by omega), if_neg hi2]
theorem FllV.step {a : NdA} {e : LfA} {v : Wr} {b q : Nat} (f : FllV a v b q) (eB : e.B = a.B) (eP : e.P = a.P) (hb : b < a.B) : FllV a (v.wrote e b) (if q + 1 = a.P then b + 1 else b) (if q + 1 = a.P then 0 else q + 1) := by
  obtain ⟨_, n1, n2, n3, n4, n5⟩ := f.nxt eB hb
  have hq := f.q
  have hP : 0 < a.P := by omega
  by_cases hl : q + 1 = a.P
  · have hcond : (v.opn b).lf.nx + 1 = e.P := by omega
    rw [if_pos hl, if_pos hl]
    refine ⟨fun i hi => ?_, ?_, fun h => absurd h (by omega), hP, fun i => ?_, ?_⟩
    · show ((v.opn b).lf.took e b).l i = _
      rw [took_l, if_pos hcond]
      unfold upd
      by_cases hi2 : i = b
      · rw [if_pos hi2, if_pos (by omega)]
      · rw [if_neg hi2, n3 i hi, if_neg hi2]
        by_cases hlt : i < b
        · rw [if_pos hlt, if_pos (by omega)]
        · rw [if_neg hlt, if_neg (by omega), if_neg (by omega)]
    · show ((v.opn b).lf.took e b).op = _
      rw [took_op, if_pos hcond, if_neg (by omega)]
    · show (v.opn b).worn i = 0
      rw [n4]; exact f.worn i
    · show (v.opn b).bad = []
      rw [n5]; exact f.bad
  · have hcond : ¬ (v.opn b).lf.nx + 1 = e.P := by omega
    rw [if_neg hl, if_neg hl]
    refine ⟨fun i hi => ?_, ?_, fun _ => ?_, by omega, fun i => ?_, ?_⟩
    · show ((v.opn b).lf.took e b).l i = _
      rw [took_l, if_neg hcond, n3 i hi]
      simp
    · show ((v.opn b).lf.took e b).op = _
      rw [took_op, if_neg hcond, n2, if_pos (by omega)]
    · show ((v.opn b).lf.took e b).nx = _
      unfold Lf.took
      rw [if_neg hcond, n1]
    · show (v.opn b).worn i = 0
      rw [n4]; exact f.worn i
    · show (v.opn b).bad = []
      rw [n5]; exact f.bad
/-- Which page comes behind. -/
theorem next_at {P b q k : Nat} (hk : k = b * P + q) (hq : q < P) : k + 1 = (if q + 1 = P then b + 1 else b) * P + (if q + 1 = P then 0 else q + 1) := by
  split
  · rw [Nat.add_mul, Nat.one_mul]; omega
  · omega
end Ev
