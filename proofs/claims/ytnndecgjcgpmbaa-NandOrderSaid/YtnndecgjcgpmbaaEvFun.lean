/- Functions: of the evaluator's word for a function to a call of it. -/
import Derived.Test.YtnndecgjcgpmbaaEvS
namespace Ev
open Go

def resOK (P : Program) : List ARes → List Ty → List ResultVar → Bool
  | [], [], [] => true
  | .t n :: l, _ :: ts, .tmp m :: r => decide (n = m) && resOK P l ts r
  | .cell n :: l, ty :: ts, .cell m t :: r => decide (n = m) && tyOK P t ty && resOK P l ts r
  | _, _, _ => false

section
variable {P : Program} {a : Act} {w : World} {ρ : Rho} {H : Heap} {e : Env} {R0 : Type} {r : R0}

/-- One variable read. -/
theorem rd_loadVar (hR : R ρ H w) {b : Nat × Nat} {pl : Pl} {ty : Ty} {v : ty.T} {t : TypeId} (h2 : ρ b.1 = some pl) (hv : rd H ty b.1 b.2 = some v) (o2 : tyOK P t ty = true) :
    ∃ u, (loadVar t ⟨pl.k, pl.base + b.2, none⟩).run P w = .ok u w ∧ WRel ρ (ty.mk v) u := by
  cases ty with
  | one c =>
    obtain ⟨acs, bk, hb, hc⟩ := rd_one hv
    obtain ⟨⟨vs, el, fr, g1, g2, g3, _⟩, hlen, hfit, _⟩ := hR.blk _ _ _ _ h2 hb
    obtain ⟨u, g4, g5⟩ := g3.get hc
    have hlt : b.2 < pl.n := by
      rcases Nat.lt_or_ge b.2 acs.length with h | h
      · omega
      · rw [List.getElem?_eq_none h] at hc; cases hc
    have g6 : vs[pl.base + b.2]? = some u := by
      rw [List.getElem?_take_of_lt hlt, List.getElem?_drop] at g4; exact g4
    simp only [tyOK, decide_eq_true_eq] at o2
    refine ⟨u, ?_, g5⟩
    simp only [Sem.run_bind, Result.andThen, loadVar, run_isAgg o2, Bool.false_eq_true, if_false]
    simp [load, Sem.run, cell?_row g1, g6]
  | agg ts =>
    obtain ⟨cs, hc, hu⟩ := Option.bind_some_inv hv
    obtain ⟨vs, el, fr, g1, g2, g3⟩ := hR.row h2 hc
    obtain ⟨q1, q2⟩ := run_tyOK_agg (w := w) o2
    rw [Tup.un_mk hu] at g3
    refine ⟨.agg ((vs.drop (pl.base + b.2)).take ts.length).toArray, ?_, _, rfl, g3⟩
    simp only [Sem.run_bind, Sem.run_pure, Result.andThen, loadVar, q1, if_true, q2, run_loadCells_row g1 _ _ g2]

def readRes (tm : Array Value) : ResultVar → Sem Value
  | .tmp t => pure (tm.getD t undef)
  | .cell q t => do loadVar t (← asAddr (tm.getD q undef))
theorem results_eq (fn : Func) (tm : Array Value) : results fn tm = (do let vs ← fn.results.mapM (readRes tm); pure (if h : vs.size = 1 then vs[0] else .tuple vs)) := rfl
theorem readRes_tmp {t : Nat} : (readRes a.tmps (.tmp t)).run P w = .ok (a.tmps.getD t undef) w := rfl
theorem readRes_cell {q : Nat} {t : TypeId} {x : Addr} {u : Value} (h : a.tmps.getD q undef = .pointer (some x)) (hu : (loadVar t x).run P w = .ok u w) : (readRes a.tmps (.cell q t)).run P w = .ok u w := by
  simp only [readRes, Sem.run_bind, h, asAddr, Sem.run_pure, Result.andThen, hu]

theorem res_run (hR : R ρ H w) (he : EnvRel ρ e a) : ∀ (l : List ARes) (rs : List Ty) (rv : List ResultVar) (k : TL rs → Option R0), resOK P l rs rv = true → resOf e H l rs k = some r →
    ∃ (x : TL rs) (vs : List Value), k x = some r ∧ WsRel ρ (TL.mk rs x) vs ∧
      (rv.mapM (readRes a.tmps)).run P w = .ok vs w
  | [], [], [], k, _, h => ⟨(), [], h, trivial, by simp⟩
  | .t n :: l, ty :: ts, .tmp m :: rv, k, ok, h => by
    simp only [resOK, Bool.and_eq_true, decide_eq_true_eq] at ok
    obtain ⟨rfl, ok⟩ := ok
    simp only [resOf, ARes.get] at h
    split at h
    · rename_i y hy
      obtain ⟨p, h1, h2⟩ := Option.bind_some_inv h
      obtain ⟨x, vs, g1, g2, g3⟩ := res_run hR he l ts rv _ ok h2
      have hv := he n
      rw [hy, Ty.un_mk h1] at hv
      refine ⟨(p, x), a.tmps.getD n undef :: vs, g1, ⟨hv, g2⟩, ?_⟩
      simp only [List.mapM_cons, Sem.run_bind, Sem.run_pure, Result.andThen, g3, readRes_tmp]
    · cases h
  | .cell n :: l, ty :: ts, .cell m t :: rv, k, ok, h => by
    simp only [resOK, Bool.and_eq_true, decide_eq_true_eq] at ok
    obtain ⟨⟨rfl, o2⟩, ok⟩ := ok
    simp only [resOf, ARes.get] at h
    split at h
    · rename_i q hy
      obtain ⟨b, rfl, h'⟩ := Option.bind_some_inv h
      obtain ⟨p, h1, h2⟩ := Option.bind_some_inv h'
      obtain ⟨x, vs, g1, g2, g3⟩ := res_run hR he l ts rv _ ok h2
      have hv := he n
      rw [hy] at hv
      obtain ⟨pl, q1, q2⟩ := (hv : CRel ρ (.ptr (some b)) _)
      obtain ⟨u, u1, u2⟩ := rd_loadVar (P := P) hR q1 h1 o2
      refine ⟨(p, x), u :: vs, g1, ⟨u2, g2⟩, ?_⟩
      simp only [List.mapM_cons, Sem.run_bind, Sem.run_pure, Result.andThen, readRes_cell q2 u1, g3]
    · cases h
  | [], [], _ :: _, _, ok, _ => by simp [resOK] at ok
  | [], _ :: _, _, _, ok, _ => by simp [resOK] at ok
  | .t _ :: _, [], _, _, ok, _ => by simp [resOK] at ok
  | .t _ :: _, _ :: _, [], _, ok, _ => by simp [resOK] at ok
  | .t _ :: _, _ :: _, .cell _ _ :: _, _, ok, _ => by simp [resOK] at ok
  | .cell _ :: _, [], _, _, ok, _ => by simp [resOK] at ok
  | .cell _ :: _, _ :: _, [], _, ok, _ => by simp [resOK] at ok
  | .cell _ :: _, _ :: _, .tmp _ :: _, _, ok, _ => by simp [resOK] at ok

theorem wsrel_length : ∀ {xs : List W} {vs : List Value}, WsRel ρ xs vs → xs.length = vs.length
  | [], [], _ => rfl
  | _ :: _, _ :: _, h => by simp [wsrel_length h.2]
  | [], _ :: _, h => h.elim
  | _ :: _, [], h => h.elim

theorem res_vrel {rs : List Ty} {x : TL rs} {vs : List Value} (h : WsRel ρ (TL.mk rs x) vs) :
    VRel ρ (resV rs x) (if hs : vs.toArray.size = 1 then vs.toArray[0] else .tuple vs.toArray) := by
  match rs, x, h with
  | [], _, h =>
    cases vs with
    | nil => exact ⟨[], rfl, trivial⟩
    | cons _ _ => exact h.elim
  | [t], x, h =>
    match vs, h with
    | [v], h => exact h.1
    | [], h => exact h.elim
    | _ :: _ :: _, h => exact h.2.elim
  | t :: u :: r, x, h =>
    match vs, h with
    | v :: v' :: vs, h =>
      have : ¬ (v :: v' :: vs).toArray.size = 1 := by simp
      rw [dif_neg this]
      exact ⟨_, rfl, h⟩
    | [], h => exact h.elim
    | [_], h => exact h.2.elim

theorem results_run (hR : R ρ H w) (he : EnvRel ρ e a) {fn : Func} {l : List ARes} {rs : List Ty} {k : TL rs → Option R0} (ok : resOK P l rs fn.results.toList = true) (h : resOf e H l rs k = some r) :
    ∃ (x : TL rs) (v : Value), k x = some r ∧ VRel ρ (resV rs x) v ∧ (results fn a.tmps).run P w = .ok v w := by
  obtain ⟨x, vs, g1, g2, g3⟩ := res_run hR he l rs _ k ok h
  refine ⟨x, _, g1, res_vrel g2, ?_⟩
  have hm : (fn.results.mapM (readRes a.tmps)).run P w = .ok vs.toArray w := by
    rw [Array.mapM_eq_mapM_toList]
    simp only [Sem.run_map, g3, Result.andThen]
  rw [results_eq]
  simp only [Sem.run_bind, hm, Result.andThen, Sem.run_pure]

theorem env_of {vs : List Value} : ∀ (ps : List Ty) (n : Nat) (x : TL ps), (∀ t, n ≤ t → True) → WsRel ρ (TL.mk ps x) vs → ∀ t, (envOf ps n x).get t = .und ∨ ∃ v, n ≤ t ∧ vs[t - n]? = some v ∧ VRel ρ ((envOf ps n x).get t) v := by
  intro ps
  induction ps generalizing vs with
  | nil => intro n x _ _ t; exact .inl rfl
  | cons p ps ih =>
    intro n x _ h t
    cases vs with
    | nil => exact h.elim
    | cons v vs =>
      simp only [envOf, Env.get_cons]
      split
      · rename_i hh; subst hh; exact .inr ⟨v, Nat.le_refl _, by simp, h.1⟩
      · rename_i hh
        rcases ih (n + 1) x.2 (fun _ _ => trivial) h.2 t with h1 | ⟨u, h1, h2, h3⟩
        · exact .inl h1
        · refine .inr ⟨u, by omega, ?_, h3⟩
          have : t - n = (t - (n + 1)) + 1 := by omega
          rw [this, List.getElem?_cons_succ]; exact h2

def fnOK (P : Program) (fids : Nat → Option FuncId) (drawOK : Nat → List Item → Array Oper → Bool) (f : AFun) (fn : Func) : Bool :=
  match fn.body with
  | some c => codeOK P fids fn.ntmps (drawOK fn.ntmps) f.body c && resOK P f.res f.rs fn.results.toList
  | none => false

def DrawSound (P : Program) (calls : Nat → Option Callee) (drawOK : Nat → List Item → Array Oper → Bool) : Prop :=
  ∀ nt its ops, drawOK nt its ops = true → RegSound P calls nt its ops

variable {calls : Nat → Option Callee} {fids : Nat → Option FuncId} {drawOK : Nat → List Item → Array Oper → Bool}

/-- The body's walk, for whatever is told in the end. -/
theorem body_calls (hCO : CallsOK P calls fids) (hD : DrawSound P calls drawOK) {f : AFun} {g : FuncId} {fn : Func} (hg : P.funcs[g]? = some fn) (ok : fnOK P fids drawOK f fn = true)
    {x : TL f.ps} {vs : List Value} (hR : R ρ H w) (hv : WsRel ρ (TL.mk f.ps x) vs) {tell : TL f.rs → Heap → Option R0}
    (hev : (evS calls f.body (envOf f.ps 0 x) H fun ex e H' => match ex with
      | .exit _ => none
      | _ => resOf e H' f.res f.rs fun r => tell r H') = some r) :
    Calls P g vs.toArray w fun en w' => ∃ v ρ' H' y, en = .returned v ∧ tell y H' = some r ∧ VRel ρ' (resV f.rs y) v ∧ R ρ' H' w' ∧ Ext ρ H w ρ' H' w' := by
  unfold fnOK at ok
  cases hb : fn.body with
  | none => rw [hb] at ok; cases ok
  | some c =>
    rw [hb] at ok
    simp only [Bool.and_eq_true] at ok
    refine calls_of_wp hg hb ?_
    have he : EnvRel ρ (envOf f.ps 0 x) { tmps := vs.toArray ++ Array.replicate (fn.ntmps - vs.toArray.size) undef, defers := [] } := by
      intro t
      rcases env_of f.ps 0 x (fun _ _ => trivial) hv t with h1 | ⟨v, h1, h2, h3⟩
      · rw [h1]; trivial
      · simp only [Nat.sub_zero] at h2
        have hlt : t < vs.length := (List.getElem?_eq_some_iff.1 h2).1
        have : (vs.toArray ++ Array.replicate (fn.ntmps - vs.toArray.size) undef).getD t undef = v := by
          rw [Array.getD_eq_getD_getElem?, Array.getElem?_append_left (by simpa using hlt)]
          simp [h2]
        show VRel ρ _ ((vs.toArray ++ Array.replicate (fn.ntmps - vs.toArray.size) undef).getD t undef)
        rw [this]; exact h3
    refine evS_goes hCO (fun its ops h => hD _ its ops h) f.body c ok.1 _ r ρ _ H _ w _ hev hR he (by simp; omega) ?_
    intro ex e' H' ρ' a' w' hk hst
    have fin : (resOf e' H' f.res f.rs fun r => tell r H') = some r → a'.defers = [] ∧ ∃ v, (results fn a'.tmps).run P w' = .ok v w' ∧ ∃ v' ρ' H' y, Ending.returned v = .returned v' ∧ tell y H' = some r ∧ VRel ρ' (resV f.rs y) v' ∧ R ρ' H' w' ∧ Ext ρ H w ρ' H' w' := by
      intro hk
      obtain ⟨y, v, g1, g2, g3⟩ := results_run (P := P) (fn := fn) hst.rel hst.env ok.2 hk
      exact ⟨hst.defers, v, g3, v, ρ', H', y, rfl, g1, g2, hst.rel, hst.ext⟩
    cases ex with
    | exit id => cases hk
    | normal => exact fin hk
    | ret => exact fin hk

theorem full_sound (hCO : CallsOK P calls fids) (hD : DrawSound P calls drawOK) {f : AFun} {g : FuncId} {fn : Func} (hg : P.funcs[g]? = some fn) (ok : fnOK P fids drawOK f fn = true) :
    (Callee.full f.ps f.rs (evFull calls f)).Sound P g := by
  intro ρ H w t r H' vs hR hv hev
  refine Calls.mono (body_calls hCO hD hg ok hR hv hev) ?_
  rintro en w' ⟨v, ρ', H1, y, rfl, h1, h2, h3, h4⟩
  cases h1
  exact ⟨v, ρ', rfl, h2, h3, h4⟩

/-! What refers to no block. -/
def flatC : CT → Bool
  | .int _ | .bool | .str => true
  | _ => false
def flatTy : Ty → Bool
  | .one c => flatC c
  | .agg cs => cs.all flatC

theorem flatC_rel {ρ ρ' : Rho} {c : CT} (h : flatC c = true) {x : c.T} {v : Value} (hr : CRel ρ (c.mk x) v) : CRel ρ' (c.mk x) v := by
  cases c <;> first | (simp [flatC] at h; done) | exact hr
theorem flatCs_rel {ρ ρ' : Rho} : ∀ {cs : List CT} {x : Tup cs} {vs : List Value}, cs.all flatC = true → CsRel ρ (Tup.mk cs x) vs → CsRel ρ' (Tup.mk cs x) vs
  | [], _, [], _, _ => trivial
  | c :: cs, x, v :: vs, h, hr => by
    simp only [List.all_cons, Bool.and_eq_true] at h
    exact ⟨flatC_rel h.1 hr.1, flatCs_rel h.2 hr.2⟩
  | [], _, _ :: _, _, hr => hr.elim
  | _ :: _, _, [], _, hr => hr.elim
theorem flat_rel {ρ ρ' : Rho} {t : Ty} (h : flatTy t = true) {x : t.T} {v : Value} (hr : WRel ρ (t.mk x) v) : WRel ρ' (t.mk x) v := by
  cases t with
  | one c => exact flatC_rel h hr
  | agg cs => obtain ⟨vs, h1, h2⟩ := hr; exact ⟨vs, h1, flatCs_rel h h2⟩
theorem flats_rel {ρ ρ' : Rho} : ∀ {ts : List Ty} {x : TL ts} {vs : List Value}, ts.all flatTy = true → WsRel ρ (TL.mk ts x) vs → WsRel ρ' (TL.mk ts x) vs
  | [], _, [], _, _ => trivial
  | t :: ts, x, v :: vs, h, hr => by
    simp only [List.all_cons, Bool.and_eq_true] at h
    exact ⟨flat_rel h.1 hr.1, flats_rel h.2 hr.2⟩
  | [], _, _ :: _, _, hr => hr.elim
  | _ :: _, _, [], _, hr => hr.elim
theorem flat_res {ρ ρ' : Rho} {rs : List Ty} {x : TL rs} {v : Value} (h : rs.all flatTy = true) (hr : VRel ρ (resV rs x) v) : VRel ρ' (resV rs x) v := by
  match rs, x, h, hr with
  | [], _, _, ⟨vs, h1, h2⟩ => exact ⟨vs, h1, by cases vs with | nil => trivial | cons _ _ => exact h2.elim⟩
  | [t], x, h, hr => simp only [List.all_cons, Bool.and_eq_true] at h; exact flat_rel h.1 hr
  | t :: u :: r, x, h, ⟨vs, h1, h2⟩ => exact ⟨vs, h1, flats_rel (ts := t :: u :: r) h h2⟩

theorem R.empty (w : World) : R (fun _ => none) [] w :=
  ⟨fun _ _ h => (by cases h), fun _ _ _ _ h => (by cases h), fun _ _ _ _ _ _ _ _ _ h => (by cases h), fun _ _ h => (by simp at h)⟩

theorem pure_sound (hCO : CallsOK P calls fids) (hD : DrawSound P calls drawOK) {f : AFun} {g : FuncId} {fn : Func} (hg : P.funcs[g]? = some fn) (ok : fnOK P fids drawOK f fn = true)
    (hp : f.ps.all flatTy = true) (hr : f.rs.all flatTy = true) : (Callee.pure f.ps f.rs (fun x => evPure calls f x [])).Sound P g := by
  intro ρ H w t r vs hR hv hev
  refine Calls.mono (body_calls hCO hD hg ok (R.empty w) (flats_rel hp hv) (tell := fun r _ => some r) hev) ?_
  rintro en w' ⟨v, ρ', H1, y, rfl, h1, h2, h3, h4⟩
  cases h1
  have hsame : ∀ j, j < w.heap.size → w'.heap[j]? = w.heap[j]? := fun j hj => h4.frame j hj (fun _ _ h => by cases h)
  exact ⟨v, rfl, flat_res hr h2, hR.world hsame, Rho.le_refl _, Nat.le_refl _, fun b pl h h' => by simp [h] at h', fun _ _ h => h, h4.size, h4.os, h4.tape, h4.output, fun j hj _ => hsame j hj⟩

/-- What is known by the old names of a block that was known by them before. -/
theorem CRel.back {ρ ρ' : Rho} (h : ρ.le ρ') {c : C} {u v : Value} (hu : CRel ρ c u) (hv : CRel ρ' c v) : CRel ρ c v := by
  match c with
  | .int _ _ => exact hv
  | .bool _ => exact hv
  | .str _ => exact hv
  | .ptr none => exact hv
  | .ptr (some a) =>
    obtain ⟨pl, h1, _⟩ := hu
    obtain ⟨pl', h3, h4⟩ := hv
    have := h _ _ h1
    rw [h3] at this; cases this
    exact ⟨_, h1, h4⟩
  | .sl _ ⟨none, _, _⟩ => exact hv
  | .sl _ ⟨some a, _, _⟩ =>
    obtain ⟨pl, _, _, h1, _⟩ := hu
    obtain ⟨pl', x, c', h3, h4⟩ := hv
    have := h _ _ h1
    rw [h3] at this; cases this
    exact ⟨_, x, c', h1, h4⟩
  | .mp none => exact hv
  | .mp (some b) =>
    obtain ⟨pl, h1, _⟩ := hu
    obtain ⟨pl', h3, h4⟩ := hv
    have := h _ _ h1
    rw [h3] at this; cases this
    exact ⟨_, h1, h4⟩
theorem CsRel.back {ρ ρ' : Rho} (h : ρ.le ρ') : ∀ {cs : List C} {us vs : List Value}, CsRel ρ cs us → CsRel ρ' cs vs → CsRel ρ cs vs
  | [], [], [], _, _ => trivial
  | _ :: _, _ :: _, _ :: _, hu, hv => ⟨hu.1.back h hv.1, hu.2.back h hv.2⟩
  | [], _ :: _, _, hu, _ => hu.elim
  | _ :: _, [], _, hu, _ => hu.elim
  | [], [], _ :: _, _, hv => hv.elim
  | _ :: _, _ :: _, [], _, hv => hv.elim

theorem R.back {ρ ρ' : Rho} {H H' : Heap} {w w' : World} (hR : R ρ H w) (hR' : R ρ' H' w') (hx : Ext ρ H w ρ' H' w') (ht : H'.take H.length = H) : R ρ H w' := by
  have hget : ∀ (b : Nat) (x : Blk), H[b]? = some x → H'[b]? = some x := by
    intro b x h
    have hb : b < H.length := (List.getElem?_eq_some_iff.1 h).1
    rw [← ht, List.getElem?_take_of_lt hb] at h
    exact h
  refine ⟨hR.dom, ?_, hR.sep, hR.nomap⟩
  intro b pl acs bk h1 h2
  obtain ⟨⟨vs, el, fr, g1, g2, g3, g4⟩, a1, a2, a3, a4⟩ := hR'.blk b pl acs bk (hx.le _ _ h1) (hget _ _ h2)
  obtain ⟨⟨us, _, _, _, _, q3, _⟩, _⟩ := hR.blk b pl acs bk h1 h2
  exact ⟨⟨vs, el, fr, g1, g2, q3.back hx.le g3, g4⟩, a1, a2, a3, a4⟩

theorem quiet_sound (hCO : CallsOK P calls fids) (hD : DrawSound P calls drawOK) {f : AFun} {g : FuncId} {fn : Func} (hg : P.funcs[g]? = some fn) (ok : fnOK P fids drawOK f fn = true)
    (hr : f.rs.all flatTy = true) : (Callee.quiet f.ps f.rs (evQuiet calls f)).Sound P g := by
  intro ρ H w t r vs hR hv hev
  refine Calls.mono (body_calls hCO hD hg ok hR hv (tell := fun r H' => if H'.take H.length = H then some r else none) hev) ?_
  rintro en w' ⟨v, ρ', H1, y, rfl, h1, h2, h3, h4⟩
  split at h1
  · rename_i ht
    cases h1
    have hR2 := hR.back h3 h4 ht
    exact ⟨v, rfl, flat_res hr h2, hR2, Rho.le_refl _, Nat.le_refl _, fun b pl h h' => by simp [h] at h', fun _ _ h => h, h4.size, h4.os, h4.tape, h4.output, h4.frame⟩
  · cases h1

end
end Ev
