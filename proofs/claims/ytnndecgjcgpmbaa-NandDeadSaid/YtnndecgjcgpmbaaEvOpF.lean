/- copy, clear, least and greatest, structs and rows by parts, fields, == of structs. -/
import Derived.Test.YtnndecgjcgpmbaaEvOpE
import Derived.Laws.Tables
import Derived.Laws.StructEq
namespace Ev
open Go
section
variable {P : Program} {o : Oper} {a : Act} {w : World} {next : Act → World → Prop} {Q : Exit → Act → World → Prop}
variable {R0 : Type} {k : V → Heap → Option R0} {r : R0} {ρ : Rho} {H : Heap} {e : Env} {calls : Nat → Option Callee} {fids : Nat → Option FuncId}

theorem CRel.shorten {es : Nat} {s : Sl} {q : Option Addr} {l c m : Nat} (h : CRel ρ (.sl es s) (.slice q l c)) (hm : m ≤ s.len) : CRel ρ (.sl es ⟨s.p, m, s.cap⟩) (.slice q m c) := by
  obtain ⟨p, len, cap⟩ := s
  cases p with
  | none =>
    obtain ⟨h1, h2, h3⟩ := h
    cases h3
    simp only at hm
    obtain rfl : m = 0 := by omega
    exact ⟨rfl, h2, rfl⟩
  | some b =>
    obtain ⟨pl, x, cp, g1, g2, f1, f2, f3, f4, f5⟩ := h
    cases g2
    simp only at hm
    have f3' : m ≤ cap := by omega
    exact ⟨pl, x, c, g1, rfl, f1, f2, f3', f4, f5⟩

/-- A row stored at a slice's beginning. -/
theorem store_slice (hR : R ρ H w) {es : Nat} {s : Sl} {q : Option Addr} {l c : Nat} {b : Nat × Nat} {new : List C} {us : List Value} {H' : Heap} (h : CRel ρ (.sl es s) (.slice q l c)) (hp : s.p = some b)
    (hw : wr H b.1 b.2 new = some H') (hu : CsRel ρ new us) (hne : us ≠ [] ) (hle : us.length ≤ s.len * es) :
    ∃ x w', q = some x ∧ (storeCells x us).run P w = .ok () w' ∧ R ρ H' w' ∧ Ext ρ H w ρ H' w' := by
  obtain ⟨p, len, cap⟩ := s
  simp only at hp
  subst hp
  obtain ⟨pl, x, cp, g1, g2, f1, f2, f3, f4, f5⟩ := h
  cases g2
  obtain ⟨qb, qo, qs⟩ := x
  simp only at f1 f2 f5
  subst f1 f2
  rcases f5 with ⟨f5, _⟩ | ⟨f5, _⟩
  · subst f5
    obtain ⟨vs, el, fr, s1, s2, s3, s4, s5⟩ := hR.store g1 hw hu
    have hrun := run_storeCells_row (P := P) us (pl.base + b.2) 0 vs w s1 (by omega) s3 hu.oneC
    exact ⟨_, _, rfl, hrun, s4, s5⟩
  · exfalso
    subst f5
    have hl0 : l = 0 := by omega
    subst hl0
    simp only [Nat.zero_mul, Nat.le_zero_eq] at hle
    exact hne (List.eq_nil_of_length_eq_zero hle)

theorem go_cpy (hR : R ρ H w) (he : EnvRel ρ e a) {es : Nat} {d s : Opd} (ok : opOK P fids (.cpy es d s) o.op = true) (hev : evOp calls (.cpy es d s) e H k = some r) : Goes k r ρ H w P o a := by
  simp only [evOp] at hev
  cases ho : o.op <;> rw [ho] at ok <;> simp only [opOK] at ok <;> try contradiction
  rename_i c
  obtain ⟨callee, args, ats⟩ := c
  simp only at ok
  split at ok
  · rename_i y z t h2 h3
    simp only [Bool.and_eq_true] at ok
    obtain ⟨⟨o1, o2⟩, o3⟩ := ok
    obtain ⟨el, hu, hsz⟩ := slOK_spec o3
    have ha : args = #[y, z] := by rw [← h2]
    subst ha
    have hrunsz : (Go.sizeOf el).run P w = .ok es w := run_size hsz
    -- one road for both kinds of source
    have main : ∀ (dl : Sl) (n : Nat) (new : List C) (us : List Value) (m : Nat), d.ev e = .w (.one (.sl es dl)) → CsRel ρ new us → us.length = n * es → n ≤ dl.len →
        (Builtin.lenOf (a.eval z)).run P w = .ok m w → Nat.min m dl.len = n → (Builtin.firstCells es n (a.eval z)).run P w = .ok us.toArray w →
        ((cpyS H es dl n new).bind fun p => k (.w (.one (.int .i64 p.1))) p.2) = some r → Goes k r ρ H w P o a := by
      intro dl n new us m e1 hc hl hn hm hmn hf hk
      obtain ⟨p, hp, hk2⟩ := Option.bind_some_inv hk
      clear hk
      have hd := vrel_sl (opd_rel he o1) e1
      obtain ⟨q, cp, hdv, _⟩ := sl_shape hd
      rw [hdv] at hd
      have hexec : ∀ w', (∀ b, q = some b → (storeCells b us).run P w = .ok () w') → (q = none → w' = w) → (execOp a.eval o).run P w = .ok (.value (.int .i64 (n : Int))) w' := by
        intro w' hq1 hq2
        simp only [execOp, ho, resolve, invoke, builtin, Sem.run_bind, Sem.run_pure, Result.andThen, List.map_toArray, List.map_cons, List.map_nil, Builtin.copy_, h3, List.getElem?_toArray, List.getElem?_cons_zero, List.getElem?_cons_succ, run_underlying hu, hdv, hm, hmn, hrunsz, hf]
        cases q with
        | none => rw [hq2 rfl]; simp only [Sem.run_pure]; rfl
        | some b => simp only [Sem.run_bind, hq1 b rfl, Result.andThen, Sem.run_pure]; rfl
      unfold cpyS at hp
      by_cases h0 : n = 0
      · subst h0
        simp only [decide_true, cond_true] at hp
        cases hp
        have hnil : us = [] := List.eq_nil_of_length_eq_zero (by simpa using hl)
        subst hnil
        exact goes_same' (v' := .int .i64 0) (hexec w (fun b _ => by simp [storeCells]) (fun _ => rfl)) hk2 rfl hR
      · simp only [h0, decide_false, cond_false] at hp
        split at hp
        · cases hp
        · rename_i b hb
          obtain ⟨H', hw, hp⟩ := Option.bind_some_inv hp
          cases hp
          intro next Q hnx
          by_cases hus : us = []
          · subst hus
            obtain ⟨p0, len, cap⟩ := dl
            simp only at hb
            subst hb
            obtain ⟨pl, x, cp', g1, g2, f1, f2, f3, f4, f5⟩ := hd
            obtain ⟨vs, el', fr, s1, s2, s3, s4, s5⟩ := hR.store g1 hw hc
            have hputs : putRow w pl.k (.cells (setV vs (pl.base + b.2) []).toArray el' fr) = w := by simp only [setV]; exact putRow_self s1
            rw [hputs] at s4 s5
            exact wp_value (hexec w (fun b _ => by simp [storeCells]) (fun h => by rw [h] at g2)) (hnx _ _ _ _ _ hk2 rfl s4 s5)
          · obtain ⟨x, w', hx, g1, g2, g3⟩ := store_slice (P := P) hR hd hb hw hc hus (by rw [hl]; exact Nat.mul_le_mul_right _ hn)
            exact wp_value (hexec w' (fun b hb => by rw [hx] at hb; cases hb; exact g1) (fun h => by rw [hx] at h; cases h)) (hnx _ _ _ _ _ hk2 rfl g2 g3)
    split at hev
    · rename_i es' dl es'' sl e1 e2
      obtain ⟨hb, hev1⟩ := cond_some_inv hev
      simp only [Bool.and_eq_true, decide_eq_true_eq] at hb
      obtain ⟨rfl, rfl⟩ := hb
      obtain ⟨new, h4, hev2⟩ := Option.bind_some_inv hev1
      have hs := vrel_sl (opd_rel he o2) e2
      obtain ⟨q, cp, hsv, _⟩ := sl_shape hs
      rw [hsv] at hs
      have hsh := hs.shorten (m := min sl.len dl.len) (Nat.min_le_left _ _)
      obtain ⟨us, g1, g2, _, g4⟩ := firstCells_of (P := P) hR hsh h4
      refine main dl (min sl.len dl.len) new us sl.len e1 g1 g2 (Nat.min_le_right _ _) (by rw [hsv]; simp [Builtin.lenOf]) rfl ?_ hev2
      have := g4 w rfl
      rw [hsv]
      cases q with
      | none => simpa [Builtin.firstCells] using this
      | some b => simpa [Builtin.firstCells] using this
    · rename_i es'' dl t2 e1 e2
      obtain ⟨hb, hev1⟩ := cond_some_inv hev
      simp only [Bool.and_eq_true, decide_eq_true_eq] at hb
      obtain ⟨rfl, rfl⟩ := hb
      obtain ⟨zs, hx, hz⟩ := vrel_str (opd_rel he o2) e2
      have hl : zs.size = t2.length := by rw [← hz, Array.length_toList]; rfl
      refine main dl (min t2.length dl.len) _ (byteV (t2.take (min t2.length dl.len))) t2.length e1 (cellsOf_rel _) (by simp [byteV_length]) (Nat.min_le_right _ _) (by rw [hx]; simp [Builtin.lenOf, hl]) rfl ?_ hev1
      rw [hx]
      simp only [Builtin.firstCells, Sem.run_pure]
      congr 1
      apply Array.ext'
      have : (zs.extract 0 (min t2.length dl.len)).data.toList = t2.take (min t2.length dl.len) := by
        rw [Lib.extract_data, hz]; simp
      rw [← this]
      simp [byteV]
    · cases hev
  · cases ok

theorem rep_zeroCells (zs : Array Value) (n : Nat) (h : 0 < zs.size) : (Builtin.zeroCells zs n).toList = (List.replicate n zs.toList).flatten := by
  unfold Builtin.zeroCells
  exact range_zero zs n h

theorem go_clr (hR : R ρ H w) (he : EnvRel ρ e a) {z : List C} {x : Opd} (ok : opOK P fids (.clr z x) o.op = true) (hev : evOp calls (.clr z x) e H k = some r) : Goes k r ρ H w P o a := by
  simp only [evOp] at hev
  cases ho : o.op <;> rw [ho] at ok <;> simp only [opOK] at ok <;> try contradiction
  rename_i c
  obtain ⟨callee, args, ats⟩ := c
  simp only at ok
  split at ok
  · rename_i y t h2 h3
    simp only [Bool.and_eq_true, decide_eq_true_eq] at ok
    obtain ⟨⟨o1, o2⟩, o3⟩ := ok
    split at o3
    · rename_i el hel
      simp only [Bool.and_eq_true] at o3
      have hu := elem_spec hel
      have ha : args = #[y] := by rw [← h2]
      subst ha
      obtain ⟨zz, hzr, hzrel⟩ := run_zero (P := P) (w := w) o3.2
      split at hev
      · rename_i es sl e1
        obtain ⟨hes, hev1⟩ := cond_some_inv hev
        have hes := of_decide_eq_true hes
        subst hes
        obtain ⟨H', h4, hk⟩ := Option.bind_some_inv hev1
        have hs := vrel_sl (opd_rel he o1) e1
        obtain ⟨q, cp, hsv, hqn⟩ := sl_shape hs
        rw [hsv] at hs
        have hexec : ∀ w', (q = none ∨ sl.len = 0 → w' = w) → (∀ b, q = some b → sl.len ≠ 0 → (storeCells b (Builtin.zeroCells zz.cells sl.len).toList).run P w = .ok () w') → (execOp a.eval o).run P w = .ok (.value (.tuple #[])) w' := by
          intro w' hq1 hq2
          simp only [execOp, ho, resolve, invoke, builtin, Sem.run_bind, Sem.run_pure, Result.andThen, List.map_toArray, List.map_cons, List.map_nil, Builtin.clear_, h3, List.getElem?_toArray, List.getElem?_cons_zero, run_underlying hu, hsv]
          cases q with
          | none => rw [hq1 (.inl rfl)]; simp
          | some b =>
            cases hn : sl.len with
            | zero => rw [hq1 (.inr hn)]; simp
            | succ n =>
              have := hq2 b rfl (by omega)
              rw [hn] at this
              simp [hzr, this, Result.andThen]
        unfold clrS at h4
        by_cases h0 : sl.len = 0
        · simp only [h0, decide_true, cond_true] at h4
          cases h4
          exact goes_same' (hexec w (fun _ => rfl) (fun _ _ h => absurd h0 h)) hk ⟨[], rfl, trivial⟩ hR
        · simp only [h0, decide_false, cond_false] at h4
          split at h4
          · cases h4
          · rename_i b hb
            have hzl := (hzrel ρ).length
            have hzs : zz.cells.size = z.length := by rw [hzl]; simp
            have hrel := rep_rel (hzrel ρ) sl.len
            rw [← rep_zeroCells _ _ (by omega)] at hrel
            have hlen : (Builtin.zeroCells zz.cells sl.len).toList.length = sl.len * z.length := by
              rw [← hrel.length, rep_length]
            obtain ⟨x, w', hx, g1, g2, g3⟩ := store_slice (P := P) hR hs hb h4 hrel (by intro hh; rw [hh] at hlen; simp at hlen; have := Nat.mul_pos (Nat.pos_of_ne_zero h0) o2; omega) (by rw [hlen]; exact Nat.le_refl _)
            intro next Q hnx
            exact wp_value (hexec w' (fun h => by rcases h with h | h; rw [hx] at h; cases h; exact absurd h h0) (fun b hb _ => by rw [hx] at hb; cases hb; exact g1)) (hnx _ _ _ _ _ hk ⟨[], rfl, trivial⟩ g2 g3)
      · cases hev
    · cases o3
  · cases ok

theorem opds_rel (he : EnvRel ρ e a) : ∀ {xs : List Opd} {ys : List Operand}, opdsOK xs ys = true → xs.length = ys.length ∧ ∀ (j : Nat) (v : V), (xs.map (Opd.ev e))[j]? = some v → ∃ u, (ys.map a.eval)[j]? = some u ∧ VRel ρ v u
  | [], [], _ => ⟨rfl, fun j v h => by simp at h⟩
  | x :: xs, y :: ys, h => by
    simp only [opdsOK, Bool.and_eq_true] at h
    obtain ⟨h1, h2⟩ := opds_rel he h.2
    refine ⟨by simp [h1], fun j v hj => ?_⟩
    cases j with
    | zero => simp at hj; subst hj; exact ⟨a.eval y, by simp, opd_rel he h.1⟩
    | succ j => simp only [List.map_cons, List.getElem?_cons_succ] at hj ⊢; exact h2 j v hj
  | [], _ :: _, h => by simp [opdsOK] at h
  | _ :: _, [], h => by simp [opdsOK] at h

def VsRel (ρ : Rho) : List V → List Value → Prop
  | [], [] => True
  | v :: vs, u :: us => VRel ρ v u ∧ VsRel ρ vs us
  | _, _ => False
theorem opds_vs (he : EnvRel ρ e a) : ∀ {xs : List Opd} {ys : List Operand}, opdsOK xs ys = true → VsRel ρ (xs.map (Opd.ev e)) (ys.map a.eval)
  | [], [], _ => trivial
  | x :: xs, y :: ys, h => by
    simp only [opdsOK, Bool.and_eq_true] at h
    exact ⟨opd_rel he h.1, opds_vs he h.2⟩
  | [], _ :: _, h => by simp [opdsOK] at h
  | _ :: _, [], h => by simp [opdsOK] at h

theorem minI_run {kd : IntKind} : ∀ {vs : List V} {us : List Value} {x : Int} {f : Int → Option R0}, VsRel ρ vs us → minI x vs f = some r → ∃ n, f n = some r ∧ (us.foldlM Builtin.min2 (.int kd x)).run P w = .ok (.int kd n) w
  | [], [], x, f, _, h => ⟨x, h, by simp⟩
  | v :: vs, u :: us, x, f, ⟨h1, h2⟩, h => by
    unfold minI at h
    split at h
    · rename_i heq; cases heq
    · rename_i kd' b rest heq
      cases heq
      obtain ⟨n, h3, h4⟩ := minI_run (kd := kd) h2 h
      refine ⟨n, h3, ?_⟩
      have hu : u = .int kd' b := h1
      subst hu
      simp only [List.foldlM_cons, Builtin.min2, Sem.run_bind, Sem.run_pure, Result.andThen]
      exact h4
    · cases h
  | [], _ :: _, _, _, h, _ => h.elim
  | _ :: _, [], _, _, h, _ => h.elim
theorem maxI_run {kd : IntKind} : ∀ {vs : List V} {us : List Value} {x : Int} {f : Int → Option R0}, VsRel ρ vs us → maxI x vs f = some r → ∃ n, f n = some r ∧ (us.foldlM Builtin.max2 (.int kd x)).run P w = .ok (.int kd n) w
  | [], [], x, f, _, h => ⟨x, h, by simp⟩
  | v :: vs, u :: us, x, f, ⟨h1, h2⟩, h => by
    unfold maxI at h
    split at h
    · rename_i heq; cases heq
    · rename_i kd' b rest heq
      cases heq
      obtain ⟨n, h3, h4⟩ := maxI_run (kd := kd) h2 h
      refine ⟨n, h3, ?_⟩
      have hu : u = .int kd' b := h1
      subst hu
      simp only [List.foldlM_cons, Builtin.max2, Sem.run_bind, Sem.run_pure, Result.andThen]
      exact h4
    · cases h
  | [], _ :: _, _, _, h, _ => h.elim
  | _ :: _, [], _, _, h, _ => h.elim

theorem go_min (hR : R ρ H w) (he : EnvRel ρ e a) {xs : List Opd} (ok : opOK P fids (.min xs) o.op = true) (hev : evOp calls (.min xs) e H k = some r) : Goes k r ρ H w P o a := by
  simp only [evOp] at hev
  cases ho : o.op <;> rw [ho] at ok <;> simp only [opOK] at ok <;> try contradiction
  rename_i c
  obtain ⟨callee, args, ats⟩ := c
  simp only at ok
  split at ok
  · have hv := opds_vs he ok
    split at hev
    · rename_i kd x rest heq
      rw [heq] at hv
      cases hy : args.toList.map a.eval with
      | nil => rw [hy] at hv; exact hv.elim
      | cons u us =>
        rw [hy] at hv
        obtain ⟨hu, hus⟩ := hv
        have hu : u = .int kd x := hu
        subst hu
        obtain ⟨n, h1, h2⟩ := minI_run (P := P) (w := w) (kd := kd) hus hev
        refine goes_same' (v' := .int kd n) ?_ h1 rfl hR
        have hargs : (args.map a.eval).toList = .int kd x :: us := by rw [Array.toList_map]; exact hy
        simp only [execOp, ho, resolve, invoke, builtin, Sem.run_bind, Sem.run_pure, Result.andThen, Builtin.min_, hargs, h2]
    · cases hev
  · cases ok
theorem go_max (hR : R ρ H w) (he : EnvRel ρ e a) {xs : List Opd} (ok : opOK P fids (.max xs) o.op = true) (hev : evOp calls (.max xs) e H k = some r) : Goes k r ρ H w P o a := by
  simp only [evOp] at hev
  cases ho : o.op <;> rw [ho] at ok <;> simp only [opOK] at ok <;> try contradiction
  rename_i c
  obtain ⟨callee, args, ats⟩ := c
  simp only at ok
  split at ok
  · have hv := opds_vs he ok
    split at hev
    · rename_i kd x rest heq
      rw [heq] at hv
      cases hy : args.toList.map a.eval with
      | nil => rw [hy] at hv; exact hv.elim
      | cons u us =>
        rw [hy] at hv
        obtain ⟨hu, hus⟩ := hv
        have hu : u = .int kd x := hu
        subst hu
        obtain ⟨n, h1, h2⟩ := maxI_run (P := P) (w := w) (kd := kd) hus hev
        refine goes_same' (v' := .int kd n) ?_ h1 rfl hR
        have hargs : (args.map a.eval).toList = .int kd x :: us := by rw [Array.toList_map]; exact hy
        simp only [execOp, ho, resolve, invoke, builtin, Sem.run_bind, Sem.run_pure, Result.andThen, Builtin.max_, hargs, h2]
    · cases hev
  · cases ok

end
end Ev
