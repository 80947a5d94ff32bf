/- What comes in: arrays of plain cells; a struct of three slices. -/
import Derived.Test.YtpebaginkkbnpaaGreatEvOpen
set_option linter.unusedVariables false
set_option linter.unusedSimpArgs false
namespace Ev
open Go Go.WideShapes
section
variable {H0 : Type} {enc : TypeId × Value → H0} {P : Program} {w : World}
theorem open_arr {r : Go.Reach} {b0 : Nat} {t : TypeId} {n : Nat} {e : TypeId} {d : Nat} {cts : List CT} {v : Value} {dd : DataW H0} {ps : List MemPlace} (ht : P.underlying t = some (.array n e)) (he : flatCts P d t = some cts)
    (hv : Value.okWide P w r b0 t v) (h : DataW.Trod enc P w 0 (fun _ => true) true t v dd ps) : ∃ x : Tup cts, (∀ ρ, WRel ρ (.agg (Tup.mk cts x)) v) ∧ ∀ c ∈ Tup.mk cts x, wfC c := by
  obtain ⟨fuel, hf⟩ := h
  obtain ⟨_, hflat⟩ := trod_flat (enc := enc) (P := P) (w := w) (base := 0) (spare := fun _ => true) (held := true) d t cts he
  simp only [Value.okWide, ht] at hv
  obtain ⟨cs, rfl, _, _⟩ := hv
  obtain ⟨acs, q1, q2, q3⟩ := hflat _ _ _ hf
  obtain ⟨x, hx⟩ := typed_of acs
  subst q1
  refine ⟨x, fun ρ => ⟨cs.toList, by simp, ?_⟩, by rw [hx]; exact q3⟩
  rw [hx]
  simpa [Value.cells] using q2 ρ

/-- A struct of three slices of plain cells, opened. -/
theorem open_sl3 {r : Go.Reach} {b0 : Nat} {t s1 s2 s3 e1 e2 e3 : TypeId} {f1 f2 f3 : Field} {d : Nat} {c1 c2 c3 : List CT} {v : Value} {dd : DataW H0} {ps : List MemPlace}
    (ht : P.underlying t = some (.struct #[f1, f2, f3])) (ho : f1.type = s1 ∧ f1.offset = 0 ∧ f2.type = s2 ∧ f2.offset = 1 ∧ f3.type = s3 ∧ f3.offset = 2)
    (hc : P.cellTypes P.depth t = some [s1, s2, s3]) (hn : P.cellsOf t = 3) (m1 : P.cellsOf s1 = 1) (m2 : P.cellsOf s2 = 1) (m3 : P.cellsOf s3 = 1)
    (t1 : P.underlying s1 = some (.slice e1)) (t2 : P.underlying s2 = some (.slice e2)) (t3 : P.underlying s3 = some (.slice e3))
    (he1 : flatCts P d e1 = some c1) (he2 : flatCts P d e2 = some c2) (he3 : flatCts P d e3 = some c3) (p1 : 0 < c1.length) (p2 : 0 < c2.length) (p3 : 0 < c3.length)
    (hv : Value.okWide P w r b0 t v) (h : DataW.Trod enc P w 0 (fun _ => true) true t v dd ps) {ρ : Rho} {H : Heap} (hR : R ρ H w) (hro : AllRo H) :
    ∃ ρ' A B H' x, ρ.le ρ' ∧ R ρ' H' w ∧ AllRo H' ∧ WRel ρ' (.agg [.sl c1.length x.1, .sl c2.length x.2.1, .sl c3.length x.2.2.1]) v ∧ Came c1 H (x : Sl × Sl × Sl × Unit).1 A ∧ Came c2 A x.2.1 B ∧ Came c3 B x.2.2.1 H' := by
  obtain ⟨fuel, hf⟩ := h
  simp only [Value.okWide, ht] at hv
  obtain ⟨cs, rfl, hsz, ts, hts, _, hcell⟩ := hv
  rw [hc] at hts
  cases hts
  rw [hn] at hsz
  have hv0 : ∀ i (hi : i < 3), ∃ u, cs[i]? = some u := fun i hi => ⟨cs[i]'(by omega), by simp [hsz, hi]⟩
  obtain ⟨x1, h1⟩ := hv0 0 (by decide)
  obtain ⟨x2, h2⟩ := hv0 1 (by decide)
  obtain ⟨x3, h3⟩ := hv0 2 (by decide)
  have hl : cs.toList = [x1, x2, x3] := by
    apply List.ext_getElem?
    intro i
    rw [Array.getElem?_toList]
    match i with
    | 0 => exact h1
    | 1 => exact h2
    | 2 => exact h3
    | i + 3 => rw [Array.getElem?_eq_none (by omega)]; rfl
  obtain ⟨u1, k1, o1⟩ := hcell 0 x1 h1
  obtain ⟨u2, k2, o2⟩ := hcell 1 x2 h2
  obtain ⟨u3, k3, o3⟩ := hcell 2 x3 h3
  cases k1
  cases k2
  cases k3
  have w1 : Value.okWide P w r b0 s1 x1 := by simp only [Value.okWide, t1]; exact o1
  have w2 : Value.okWide P w r b0 s2 x2 := by simp only [Value.okWide, t2]; exact o2
  have w3 : Value.okWide P w r b0 s3 x3 := by simp only [Value.okWide, t3]; exact o3
  obtain ⟨a1, l1, q1, rfl⟩ := okWide_slice t1 w1
  obtain ⟨a2, l2, q2, rfl⟩ := okWide_slice t2 w2
  obtain ⟨a3, l3, q3, rfl⟩ := okWide_slice t3 w3
  cases fuel with
  | zero => simp [DataW.trod] at hf
  | succ fuel =>
    have hx2 : (if cs.toList.length = P.cellsOf t then ([f1, f2, f3].mapM fun f => DataW.trod enc P w 0 (fun _ => true) true fuel f.type ((cs.toList.drop f.offset).take (P.cellsOf f.type))).map fun xs => ((.agg (xs.map (·.1)), xs.flatMap (·.2)) : DataW H0 × List MemPlace) else none) = some (dd, ps) := by
      rw [← hf]; simp only [DataW.trod, ht, Value.cells]
    rw [if_pos (by rw [hn]; simp [hsz])] at hx2
    obtain ⟨ho1, ho2, ho3, ho4, ho5, ho6⟩ := ho
    cases hm : [f1, f2, f3].mapM fun f => DataW.trod enc P w 0 (fun _ => true) true fuel f.type ((cs.toList.drop f.offset).take (P.cellsOf f.type)) with
    | none => rw [hm] at hx2; cases hx2
    | some xs =>
      rw [List.mapM_cons] at hm
      obtain ⟨y1, g1, hm⟩ := Option.bind_some_inv hm
      obtain ⟨ys, hm, _⟩ := Option.bind_some_inv hm
      rw [List.mapM_cons] at hm
      obtain ⟨y2, g2, hm⟩ := Option.bind_some_inv hm
      obtain ⟨ys, hm, _⟩ := Option.bind_some_inv hm
      rw [List.mapM_cons] at hm
      obtain ⟨y3, g3, _⟩ := Option.bind_some_inv hm
      rw [ho1, ho2, m1, hl] at g1
      rw [ho3, ho4, m2, hl] at g2
      rw [ho5, ho6, m3, hl] at g3
      obtain ⟨ρ1, A, z1, v1, v2, v3, v4, v5⟩ := open_flats t1 he1 p1 w1 (dd := y1.1) (ps := y1.2) ⟨fuel, by simpa [Value.cells] using g1⟩ hR hro
      obtain ⟨ρ2, B, z2, b1, b2, b3, b4, b5⟩ := open_flats t2 he2 p2 w2 (dd := y2.1) (ps := y2.2) ⟨fuel, by simpa [Value.cells] using g2⟩ v2 v3
      obtain ⟨ρ3, D, z3, d1, d2, d3, d4, d5⟩ := open_flats t3 he3 p3 w3 (dd := y3.1) (ps := y3.2) ⟨fuel, by simpa [Value.cells] using g3⟩ b2 b3
      refine ⟨ρ3, A, B, D, (z1, z2, z3, ()), fun k p h => d1 k p (b1 k p (v1 k p h)), d2, d3, ⟨cs.toList, by simp, ?_⟩, v5, b5, d5⟩
      rw [hl]
      exact ⟨(v4.mono b1).mono d1, b4.mono d1, d4, trivial⟩
end
end Ev
