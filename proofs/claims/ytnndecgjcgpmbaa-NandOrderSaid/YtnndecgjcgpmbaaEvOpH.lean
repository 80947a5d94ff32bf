/- == of structs; calls; then all operations in one theorem. -/
import Derived.Test.YtnndecgjcgpmbaaEvOpG
import Derived.Test.YtnndecgjcgpmbaaEvOpB
import Derived.Test.YtnndecgjcgpmbaaEvOpM
namespace Ev
open Go
section
variable {P : Program} {o : Oper} {a : Act} {w : World} {next : Act → World → Prop} {Q : Exit → Act → World → Prop}
variable {R0 : Type} {k : V → Heap → Option R0} {r : R0} {ρ : Rho} {H : Heap} {e : Env} {calls : Nat → Option Callee} {fids : Nat → Option FuncId}

theorem plain_cases {t : TypeId} {c : CT} (h : plainCts P 1 t = some [c]) :
    (∃ k, P.underlying t = some (.int k) ∧ c = .int k) ∨ (P.underlying t = some .bool ∧ c = .bool) ∨ (P.underlying t = some .string ∧ c = .str) := by
  simp only [plainCts] at h
  cases hu : P.underlying t with
  | none => simp [hu] at h
  | some d =>
    rw [hu] at h
    cases d <;> first | (simp at h; done) | skip
    · cases h; exact .inr (.inl ⟨rfl, rfl⟩)
    · rename_i k; cases h; exact .inl ⟨k, rfl, rfl⟩
    · cases h; exact .inr (.inr ⟨rfl, rfl⟩)

theorem Tup.un_cons {t : CT} {ts : List CT} {cs : List C} {x : Tup (t :: ts)} (h : Tup.un (t :: ts) cs = some x) : ∃ c r p q, cs = c :: r ∧ t.un c = some p ∧ Tup.un ts r = some q ∧ x = (p, q) := by
  cases cs with
  | nil => simp [Tup.un] at h
  | cons c r =>
    simp only [Tup.un] at h
    obtain ⟨y, h1, h2⟩ := Option.bind_some_inv h
    obtain ⟨z, h3, h4⟩ := Option.bind_some_inv h2
    cases h4
    exact ⟨c, r, y, z, rfl, h1, h3, rfl⟩

theorem toList_beq (x y : ByteArray) : (x.toList == y.toList) = decide (x.data.toList = y.data.toList) := by
  rw [ByteArray.toList_eq, ByteArray.toList_eq]
  apply Bool.eq_iff_iff.2
  rw [beq_iff_eq, decide_eq_true_eq]

theorem eqFields_run (d : Nat) {cs ds : List C} {vs us : List Value} (hc : CsRel ρ cs vs) (hd : CsRel ρ ds us) : ∀ (fs : List Field) (off : Nat) (ts : List CT) (x y : Tup ts),
    fieldsCts P off fs = some ts → Tup.un ts (cs.drop off) = some x → Tup.un ts (ds.drop off) = some y →
    (Op.eqFields (d + 1) vs.toArray us.toArray fs).run P w = .ok (Tup.beq ts x y) w
  | [], off, ts, x, y, h, _, _ => by
    simp only [fieldsCts] at h
    cases h
    simp [Op.eqFields, Tup.beq]
  | f :: fs, off, ts, x, y, h, hx, hy => by
    simp only [fieldsCts] at h
    obtain ⟨h1, h2⟩ := cond_some_inv h
    simp only [Bool.and_eq_true, decide_eq_true_eq] at h1
    obtain ⟨rfl, hn⟩ := h1
    split at h2
    · rename_i c hp
      cases hr : fieldsCts P (f.offset + 1) fs with
      | none => simp [hr] at h2
      | some ts' =>
        simp only [hr, Option.map_some] at h2
        cases h2
        obtain ⟨c1, r1, x1, x2, e1, g1, g1', rfl⟩ := Tup.un_cons hx
        obtain ⟨c2, r2, y1, y2, e2, g2, g2', rfl⟩ := Tup.un_cons hy
        have hc1 : cs[f.offset]? = some c1 := by rw [← List.head?_drop, e1]; rfl
        have hc2 : ds[f.offset]? = some c2 := by rw [← List.head?_drop, e2]; rfl
        have hr1 : cs.drop (f.offset + 1) = r1 := by rw [← List.tail_drop, e1]; rfl
        have hr2 : ds.drop (f.offset + 1) = r2 := by rw [← List.tail_drop, e2]; rfl
        obtain ⟨v1, k1, q1⟩ := hc.get hc1
        obtain ⟨v2, k2, q2⟩ := hd.get hc2
        have ih := eqFields_run d hc hd fs (f.offset + 1) ts' x2 y2 hr (by rw [hr1]; exact g1') (by rw [hr2]; exact g2')
        rw [CT.un_mk g1] at q1
        rw [CT.un_mk g2] at q2
        have ha : aggB P f.type = some false := by
          rcases plain_cases hp with ⟨k, hu, _⟩ | ⟨hu, _⟩ | ⟨hu, _⟩ <;> simp [aggB, hu]
        have hpart1 : (part f.type vs.toArray f.offset).run P w = .ok v1 w := by
          simp only [part, Sem.run_bind, run_isAgg ha, Result.andThen]; simp [k1]
        have hpart2 : (part f.type us.toArray f.offset).run P w = .ok v2 w := by
          simp only [part, Sem.run_bind, run_isAgg ha, Result.andThen]; simp [k2]
        have hel : (Op.equalIn (d + 1) f.type v1 v2).run P w = .ok (c.beq x1 y1) w := by
          rcases plain_cases hp with ⟨k, hu, rfl⟩ | ⟨hu, rfl⟩ | ⟨hu, rfl⟩
          · have e1 : v1 = .int k x1 := q1
            have e2 : v2 = .int k y1 := q2
            subst e1 e2
            have key : ∀ a b : Int, (Op.equalIn (d + 1) f.type (.int k a) (.int k b)).run P w = .ok (eqI a b) w := fun a b => by rw [run_equalIn_int w d f.type k k _ _ hu]; rfl
            exact key x1 y1
          · have e1 : v1 = .bool x1 := q1
            have e2 : v2 = .bool y1 := q2
            subst e1 e2
            have key : ∀ a b : Bool, (Op.equalIn (d + 1) f.type (.bool a) (.bool b)).run P w = .ok (eqB a b) w := fun a b => by rw [run_equalIn_bool' w d f.type _ _ hu]; rfl
            exact key x1 y1
          · obtain ⟨s1, e1, l1⟩ := q1
            obtain ⟨s2, e2, l2⟩ := q2
            subst e1 e2
            rw [run_equalIn_string w d f.type _ _ hu, toList_beq, l1, l2]; rfl
        simp only [Op.eqFields]
        rw [if_pos hn]
        simp only [Sem.run_bind, hpart1, hpart2, hel, Result.andThen]
        cases hb : c.beq x1 y1
        · simp [Tup.beq, hb]
        · simp only [Tup.beq, hb, Bool.true_and, Bool.not_true, Bool.false_eq_true, if_false]; exact ih
    · cases h2

theorem go_eqagg (hR : R ρ H w) (he : EnvRel ρ e a) {neg : Bool} {ts : List CT} {x y : Opd} (ok : opOK P fids (.eqagg neg ts x y) o.op = true) (hev : evOp calls (.eqagg neg ts x y) e H k = some r) : Goes k r ρ H w P o a := by
  simp only [evOp] at hev
  cases ho : o.op <;> rw [ho] at ok <;> simp only [opOK] at ok <;> try contradiction
  rename_i op t x' y' yt
  simp only [Bool.and_eq_true, decide_eq_true_eq] at ok
  obtain ⟨⟨⟨o1, o2⟩, o3⟩, o4⟩ := ok
  split at hev
  · rename_i xs ys e1 e2
    obtain ⟨ta, h1, h2⟩ := Option.bind_some_inv hev
    obtain ⟨tb, h3, hk⟩ := Option.bind_some_inv h2
    have hx := opd_rel he o2
    have hy := opd_rel he o3
    rw [e1] at hx
    rw [e2] at hy
    obtain ⟨vs, hv, hc⟩ := hx
    obtain ⟨us, hu, hd⟩ := hy
    unfold structCts at o4
    split at o4
    · rename_i fs hfs
      cases hb : (P.stoodInHeld t || P.eqGuardType P.depth t) with
      | true => rw [hb] at o4; cases o4
      | false =>
        rw [hb] at o4
        simp only [cond_false] at o4
        obtain ⟨b1, b2⟩ := Bool.or_eq_false_iff.1 hb
        have hfo : P.underlying t = some (.struct (P.fieldsOf t)) := by simp [Program.fieldsOf, hfs]
        have hff : P.fieldsOf t = fs := by simp [Program.fieldsOf, hfs]
        have hrun : (Op.equalIn 10000 t (.agg vs.toArray) (.agg us.toArray)).run P w = .ok (Tup.beq ts ta tb) w := by
          rw [run_equalIn_struct w 9999 t _ _ hfo b1, hff]
          exact eqFields_run 9998 hc hd fs.toList 0 ts ta tb o4 h1 h3
        have hg := fun op => run_eqGuard_agg (P := P) w op t x' y' vs.toArray us.toArray b2
        refine goes_same' (v' := .bool (negB neg (Tup.beq ts ta tb))) ?_ hk rfl hR
        cases neg
        · simp only [cond_false] at o1
          subst o1
          simp only [execOp, ho, hv, hu, Sem.run_bind, hg, Result.andThen, run_eql_struct, hrun, Sem.run_pure]; rfl
        · simp only [cond_true] at o1
          subst o1
          simp only [execOp, ho, hv, hu, Sem.run_bind, hg, Result.andThen, run_neq_struct, hrun, Sem.run_pure]; rfl
    · cases o4
  · cases hev

/-! Calls. -/
def Callee.Sound (P : Program) (f : FuncId) : Callee → Prop
  | .full ps rs g => ∀ (ρ : Rho) (H : Heap) (w : World) (t : TL ps) (r : TL rs) (H' : Heap) (vs : List Value), R ρ H w → WsRel ρ (TL.mk ps t) vs → g t H = some (r, H') →
      Calls P f vs.toArray w fun e w' => ∃ v ρ', e = .returned v ∧ VRel ρ' (resV rs r) v ∧ R ρ' H' w' ∧ Ext ρ H w ρ' H' w'
  | .quiet ps rs g => ∀ (ρ : Rho) (H : Heap) (w : World) (t : TL ps) (r : TL rs) (vs : List Value), R ρ H w → WsRel ρ (TL.mk ps t) vs → g t H = some r →
      Calls P f vs.toArray w fun e w' => ∃ v, e = .returned v ∧ VRel ρ (resV rs r) v ∧ R ρ H w' ∧ Ext ρ H w ρ H w'
  | .pure ps rs g => ∀ (ρ : Rho) (H : Heap) (w : World) (t : TL ps) (r : TL rs) (vs : List Value), R ρ H w → WsRel ρ (TL.mk ps t) vs → g t = some r →
      Calls P f vs.toArray w fun e w' => ∃ v, e = .returned v ∧ VRel ρ (resV rs r) v ∧ R ρ H w' ∧ Ext ρ H w ρ H w'

/-- The functions that are called are known. -/
structure CallsOK (P : Program) (calls : Nat → Option Callee) (fids : Nat → Option FuncId) : Prop where
  sound : ∀ f c g, calls f = some c → fids f = some g → c.Sound P g
  enters : ∀ f c g, calls f = some c → fids f = some g → ∃ fn, P.funcs[g]? = some fn ∧ (fn.name == "runtime.NumGoroutine") = false ∧ fn.body.isNone = false

theorem wsrel_of {ws : List W} : ∀ {vs : List Value}, VsRel ρ (ws.map V.w) vs → WsRel ρ ws vs := by
  induction ws with
  | nil => intro vs h; cases vs with
    | nil => trivial
    | cons _ _ => exact h.elim
  | cons x xs ih => intro vs h; cases vs with
    | nil => exact h.elim
    | cons y ys => exact ⟨h.1, ih h.2⟩

theorem wp_enter {f : FuncId} {args : Array Value} {Rr : Ending → World → Prop} (h : (execOp a.eval o).run P w = .ok (.enter f args) w)
    (hc : Calls P f args w Rr) (hr : ∀ e w', Rr e w' → ∃ v, e = .returned v ∧ next (a.put o.dst v) w') : o.wp P a w next Q := by
  unfold Oper.wp
  rw [h]
  refine Calls.mono hc ?_
  intro e w' he
  obtain ⟨v, rfl, hn⟩ := hr e w' he
  exact hn

theorem go_call (hCO : CallsOK P calls fids) (hR : R ρ H w) (he : EnvRel ρ e a) {f : Nat} {args : List Opd} (ok : opOK P fids (.call f args) o.op = true) (hev : evOp calls (.call f args) e H k = some r) : Goes k r ρ H w P o a := by
  simp only [evOp] at hev
  cases ho : o.op <;> rw [ho] at ok <;> simp only [opOK] at ok <;> try contradiction
  rename_i c
  obtain ⟨callee, args', ats⟩ := c
  simp only at ok
  split at ok
  · rename_i g
    simp only [Bool.and_eq_true, decide_eq_true_eq] at ok
    obtain ⟨o1, o2⟩ := ok
    have hvs := opds_vs he o2
    cases hcf : calls f with
    | none => rw [hcf] at hev; cases hev
    | some c =>
      have hs := hCO.sound f c g hcf o1
      obtain ⟨fn, f1, f2, f3⟩ := hCO.enters f c g hcf o1
      rw [hcf] at hev
      have hexec : (execOp a.eval o).run P w = .ok (.enter g (args'.toList.map a.eval).toArray) w := by
        have e1 : (args'.map a.eval) = (args'.toList.map a.eval).toArray := by
          apply Array.ext'; simp
        simp only [execOp, ho, resolve, Act.eval, Deferred.ofValue, Sem.run_bind, Sem.run_pure, Result.andThen, invoke, callFunc, run_program, f1, f2, f3]
        simp [e1]
      intro next Q hn
      cases c with
      | full ps rs gg =>
        simp only at hev
        obtain ⟨t, h1, h2⟩ := Option.bind_some_inv hev
        obtain ⟨p, h3, hk⟩ := Option.bind_some_inv h2
        have hw := TL.un_mk h1
        rw [hw] at hvs
        refine wp_enter hexec (hs ρ H w t p.1 p.2 _ hR (wsrel_of hvs) h3) ?_
        rintro e w' ⟨v, ρ', rfl, q1, q2, q3⟩
        exact ⟨v, rfl, hn _ _ _ _ _ hk q1 q2 q3⟩
      | quiet ps rs gg =>
        simp only at hev
        obtain ⟨t, h1, h2⟩ := Option.bind_some_inv hev
        obtain ⟨p, h3, hk⟩ := Option.bind_some_inv h2
        have hw := TL.un_mk h1
        rw [hw] at hvs
        refine wp_enter hexec (hs ρ H w t p _ hR (wsrel_of hvs) h3) ?_
        rintro e w' ⟨v, rfl, q1, q2, q3⟩
        exact ⟨v, rfl, hn _ _ _ _ _ hk q1 q2 q3⟩
      | pure ps rs gg =>
        simp only at hev
        obtain ⟨t, h1, h2⟩ := Option.bind_some_inv hev
        obtain ⟨p, h3, hk⟩ := Option.bind_some_inv h2
        have hw := TL.un_mk h1
        rw [hw] at hvs
        refine wp_enter hexec (hs ρ H w t p _ hR (wsrel_of hvs) h3) ?_
        rintro e w' ⟨v, rfl, q1, q2, q3⟩
        exact ⟨v, rfl, hn _ _ _ _ _ hk q1 q2 q3⟩
  · cases ok

theorem evOp_goes (hCO : CallsOK P calls fids) (hR : R ρ H w) (he : EnvRel ρ e a) {op : AOp} (ok : opOK P fids op o.op = true) (hev : evOp calls op e H k = some r) : Goes k r ρ H w P o a := by
  cases op with
  | mv x => exact go_mv hR he ok hev
  | pick c a b => exact go_pick hR he ok hev
  | new z => exact go_new hR ok hev
  | box x => exact go_box hR he ok hev
  | build z ps => exact go_build hR he ok hev
  | bslice es len z ps => exact go_bslice hR he ok hev
  | load ty x => exact go_load hR he ok hev
  | store n a x => exact go_store hR he ok hev
  | nilc x => exact go_nilc hR he ok hev
  | bin op x y => exact go_bin hR he ok hev
  | eqb neg x y => exact go_eqb hR he ok hev
  | isnil neg x => exact go_isnil hR he ok hev
  | isnils neg x => exact go_isnils hR he ok hev
  | eqagg neg ts x y => exact go_eqagg hR he ok hev
  | un op x => exact go_un hR he ok hev
  | conv k x => exact go_conv hR he ok hev
  | cstr x => exact go_cstr hR he ok hev
  | b2s x => exact go_b2s hR he ok hev
  | s2b x => exact go_s2b hR he ok hev
  | mk es b z l c => exact go_mk hR he ok hev
  | slc es x lo hi mx => exact go_slc hR he ok hev
  | slstr x lo hi => exact go_slstr hR he ok hev
  | addr off x => exact go_addr hR he ok hev
  | field ty off x => exact go_field hR he ok hev
  | idxa es x i => exact go_idxa hR he ok hev
  | idxarr es n x i => exact go_idxarr hR he ok hev
  | index x i => exact go_index hR he ok hev
  | ext x i => exact go_ext hR he ok hev
  | call f args => exact go_call hCO hR he ok hev
  | len x => exact go_len hR he ok hev
  | lens x => exact go_lens hR he ok hev
  | app es b s x => exact go_app hR he ok hev
  | cpy es d s => exact go_cpy hR he ok hev
  | clr z x => exact go_clr hR he ok hev
  | min xs => exact go_min hR he ok hev
  | max xs => exact go_max hR he ok hev

end
end Ev
