/- Loads, stores, new blocks. -/
import Derived.Test.YtnndecgjcgpmbaaEvOp
namespace Ev
open Go
section
variable {P : Program} {o : Oper} {a : Act} {w : World} {next : Act → World → Prop} {Q : Exit → Act → World → Prop}
variable {R0 : Type} {k : V → Heap → Option R0} {r : R0} {ρ : Rho} {H : Heap} {e : Env} {calls : Nat → Option Callee} {fids : Nat → Option FuncId}

theorem run_tyOK_agg {t : TypeId} {cs : List CT} (h : tyOK P t (.agg cs) = true) : (isAgg t).run P w = .ok true w ∧ (Go.sizeOf t).run P w = .ok cs.length w := by
  simp only [tyOK, Bool.and_eq_true, decide_eq_true_eq] at h
  exact ⟨run_isAgg h.1, run_size h.2⟩

theorem rd_one {c : CT} {b q : Nat} {v : c.T} (h : rd H (.one c) b q = some v) : ∃ acs bk, H[b]? = some (.cells acs bk) ∧ acs[q]? = some (c.mk v) := by
  unfold rd at h
  obtain ⟨x, h1, h2⟩ := Option.bind_some_inv h
  unfold Heap.cell at h1
  split at h1
  · rename_i acs bk hb
    exact ⟨acs, bk, hb, by rw [h1, CT.un_mk h2]⟩
  · contradiction
theorem row_some {b q n : Nat} {cs : List C} (h : Heap.row H b q n = some cs) : ∃ acs bk, H[b]? = some (.cells acs bk) ∧ q + n ≤ acs.length ∧ cs = (acs.drop q).take n := by
  unfold Heap.row at h
  split at h
  · rename_i acs bk hb
    unfold cut at h
    obtain ⟨h1, h2⟩ := cond_some_inv h
    cases h2
    exact ⟨acs, bk, hb, of_decide_eq_true h1, rfl⟩
  · contradiction

/-- n cells of a block that is known. -/
theorem R.row (hR : R ρ H w) {b q n : Nat} {pl : Pl} {cs : List C} (hρ : ρ b = some pl) (h : Heap.row H b q n = some cs) :
    ∃ (vs : List Value) (el : TypeId) (fr : Nat × Nat), w.heap[pl.k]? = some (.cells vs.toArray el fr) ∧ pl.base + q + n ≤ vs.length ∧ CsRel ρ cs ((vs.drop (pl.base + q)).take n) := by
  obtain ⟨acs, bk, hb, hl, rfl⟩ := row_some h
  obtain ⟨⟨vs, el, fr, h1, h2, h3, _⟩, hlen, hfit, _⟩ := hR.blk b pl acs bk hρ hb
  refine ⟨vs, el, fr, h1, by omega, ?_⟩
  have := (h3.drop q).take n
  rw [List.drop_take, List.drop_drop, List.take_take] at this
  rwa [Nat.min_eq_left (by omega)] at this

theorem go_load (hR : R ρ H w) (he : EnvRel ρ e a) {ty : Ty} {x : Opd} (ok : opOK P fids (.load ty x) o.op = true) (hev : evOp calls (.load ty x) e H k = some r) : Goes k r ρ H w P o a := by
  simp only [evOp] at hev
  cases ho : o.op <;> rw [ho] at ok <;> simp only [opOK] at ok <;> try contradiction
  rename_i t y
  simp only [Bool.and_eq_true] at ok
  obtain ⟨o1, o2⟩ := ok
  have h1 := opd_rel he o1
  split at hev
  · rename_i p hp
    obtain ⟨b, rfl, hev2⟩ := Option.bind_some_inv hev
    clear hev
    obtain ⟨v, hv, hk⟩ := Option.bind_some_inv hev2
    rw [hp] at h1
    obtain ⟨pl, h2, h3⟩ := (h1 : CRel ρ (.ptr (some b)) _)
    cases ty with
    | one c =>
      obtain ⟨acs, bk, hb, hc⟩ := rd_one hv
      obtain ⟨⟨vs, el, fr, g1, g2, g3, _⟩, hlen, hfit, _⟩ := hR.blk _ _ _ _ h2 hb
      obtain ⟨u, g4, g5⟩ := g3.get hc
      have hlt : b.2 < pl.n := by
        rcases Nat.lt_or_ge b.2 acs.length with h | h
        · omega
        · rw [List.getElem?_eq_none h] at hc; cases hc
      have g6 : vs[pl.base + b.2]? = some u := by
        rw [List.getElem?_take_of_lt hlt, List.getElem?_drop] at g4; exact g4
      simp only [tyOK, decide_eq_true_eq] at o2
      refine goes_same (s := Instr.loadAt t (a.eval y)) (v' := u) (by simp [execOp, ho]) ?_ hk g5 hR
      simp only [Instr.loadAt, h3, Instr.sureAddr, Sem.run_bind, Sem.run_pure, Result.andThen, loadVar, run_isAgg o2, Bool.false_eq_true, if_false]
      simp [load, Sem.run, cell?_row g1, g6]
    | agg ts =>
      obtain ⟨cs, hc, hu⟩ := Option.bind_some_inv hv
      obtain ⟨vs, el, fr, g1, g2, g3⟩ := hR.row h2 hc
      obtain ⟨q1, q2⟩ := run_tyOK_agg (w := w) o2
      rw [Tup.un_mk hu] at g3
      refine goes_same (s := Instr.loadAt t (a.eval y)) (v' := .agg ((vs.drop (pl.base + b.2)).take ts.length).toArray) (by simp [execOp, ho]) ?_ hk ⟨_, rfl, g3⟩ hR
      simp only [Instr.loadAt, h3, Instr.sureAddr, Sem.run_bind, Sem.run_pure, Result.andThen, loadVar, q1, if_true, q2, run_loadCells_row g1 _ _ g2]
  · contradiction

theorem storeVar_run {t : TypeId} {n : Nat} {v : Value} {x : W} (hs : sizeIs P t n = true) (hv : WRel ρ x v) (hn : x.cs.length = n) (hR : R ρ H w) {b q : Nat} {pl : Pl} {H' : Heap} (hρ : ρ b = some pl) (hw : wr H b q x.cs = some H') :
    ∃ w', (storeVar t ⟨pl.k, pl.base + q, none⟩ v).run P w = .ok () w' ∧ R ρ H' w' ∧ Ext ρ H w ρ H' w' := by
  have hc := hv.cs
  obtain ⟨vs, el, fr, g1, g2, g3, g4, g5⟩ := hR.store hρ hw hc
  refine ⟨_, ?_, g4, g5⟩
  have hlen : v.cells.size = n := by rw [← hn, hc.length, Array.length_toList]
  simp only [storeVar, Sem.run_bind, run_size hs, Result.andThen, hlen, ne_eq, not_true_eq_false, if_false]
  have := run_storeCells_row (P := P) v.cells.toList (pl.base + q) 0 vs w g1 (by omega) g3 hc.oneC
  exact this

theorem go_store (hR : R ρ H w) (he : EnvRel ρ e a) {n : Nat} {x y : Opd} (ok : opOK P fids (.store n x y) o.op = true) (hev : evOp calls (.store n x y) e H k = some r) : Goes k r ρ H w P o a := by
  simp only [evOp] at hev
  cases ho : o.op <;> rw [ho] at ok <;> simp only [opOK] at ok <;> try contradiction
  rename_i t x' y'
  simp only [Bool.and_eq_true] at ok
  obtain ⟨⟨o1, o2⟩, o3⟩ := ok
  have h1 := opd_rel he o1
  have h2 := opd_rel he o2
  have main : ∀ (p : Ptr) (u : W), x.ev e = .w (.one (.ptr p)) → y.ev e = .w u → u.cs.length = n → (p.bind fun a => (wr H a.1 a.2 u.cs).bind fun H' => k .und H') = some r → Goes k r ρ H w P o a := by
    intro p u e1 e2 hn hk
    obtain ⟨b, rfl, hk2⟩ := Option.bind_some_inv hk
    clear hk
    obtain ⟨H', hw, hk⟩ := Option.bind_some_inv hk2
    rw [e1] at h1
    rw [e2] at h2
    obtain ⟨pl, g1, g2⟩ := (h1 : CRel ρ (.ptr (some b)) _)
    obtain ⟨w', q1, q2, q3⟩ := storeVar_run (P := P) o3 h2 hn hR g1 hw
    intro next Q hnx
    refine wp_skip' (w' := w') ?_ (hnx _ _ _ _ _ hk trivial q2 q3)
    simp [execOp, ho, Instr.storeAt, g2, Instr.sureAddr, q1, Result.andThen]
  split at hev
  · rename_i p c e1 e2
    obtain ⟨hn, hev⟩ := cond_some_inv hev
    exact main p (.one c) e1 e2 (by simpa [W.cs] using (of_decide_eq_true hn).symm) hev
  · rename_i p cs e1 e2
    obtain ⟨hn, hev⟩ := cond_some_inv hev
    exact main p (.agg cs) e1 e2 (by simpa [W.cs] using (of_decide_eq_true hn).symm) hev
  · contradiction

theorem newVar_goes (hR : R ρ H w) {t : TypeId} {cs : List C} {v : Value} {s : Sem Value} (hc : CsRel ρ cs v.cells.toList)
    (hx : execOp a.eval o = (do pure (Next.value (← s)))) (hs : s.run P w = .ok (.pointer (some ⟨w.heap.size, 0, none⟩)) (w.alloc (.cells v.cells t)))
    (hk : k (.w (.one (.ptr (some (H.length, 0))))) (H ++ [.cells cs .exact]) = some r) : Goes k r ρ H w P o a := by
  have hl := hc.length
  obtain ⟨g1, g2⟩ := hR.alloc (w' := w.alloc (.cells v.cells t)) cs .exact v.cells.toList t (0, 0) rfl rfl rfl rfl (by rw [hl, List.take_length]; exact hc) (by omega) (fun _ => hl.symm) (by intro j _ h; exact absurd h (Nat.not_lt_zero _))
  intro next Q hn
  refine wp_sem hx hs (hn _ _ _ _ _ hk ⟨_, Rho.set_same _ _ _, ?_⟩ g1 g2)
  simp

theorem go_new (hR : R ρ H w) {z : List C} (ok : opOK P fids (.new z) o.op = true) (hev : evOp calls (.new z) e H k = some r) : Goes k r ρ H w P o a := by
  simp only [evOp] at hev
  cases ho : o.op <;> rw [ho] at ok <;> simp only [opOK] at ok <;> try contradiction
  rename_i t
  obtain ⟨v, h1, h2⟩ := run_zero (P := P) (w := w) ok
  exact newVar_goes hR (t := t) (h2 ρ) (s := Instr.alloc t true (.tuple #[])) (by simp [execOp, ho]) (by simp [Instr.alloc, h1, Result.andThen, newVar, newRow]) hev

theorem go_box (hR : R ρ H w) (he : EnvRel ρ e a) {x : Opd} (ok : opOK P fids (.box x) o.op = true) (hev : evOp calls (.box x) e H k = some r) : Goes k r ρ H w P o a := by
  simp only [evOp] at hev
  cases ho : o.op <;> rw [ho] at ok <;> simp only [opOK] at ok <;> try contradiction
  rename_i t y
  have h1 := opd_rel he ok
  have main : ∀ u : W, x.ev e = .w u → k (.w (.one (.ptr (some (H.length, 0))))) (H ++ [.cells u.cs .exact]) = some r → Goes k r ρ H w P o a := by
    intro u e1 hk
    rw [e1] at h1
    exact newVar_goes hR (t := t) (WRel.cs h1) (s := Instr.box t (a.eval y)) (by simp [execOp, ho]) (by simp [Instr.box, Result.andThen, newVar, newRow]) hk
  split at hev
  · rename_i c e1; exact main (.one c) e1 hev
  · rename_i cs e1; exact main (.agg cs) e1 hev
  · contradiction

end
end Ev
