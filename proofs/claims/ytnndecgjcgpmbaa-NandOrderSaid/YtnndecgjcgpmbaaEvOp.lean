/- Each operation of the evaluator tells what the machine's own operation tells. -/
import Derived.Test.YtnndecgjcgpmbaaEvOk
namespace Ev
open Go

theorem CT.un_mk {t : CT} {c : C} {x : t.T} (h : t.un c = some x) : c = t.mk x := by
  cases t <;> cases c <;> simp only [CT.un] at h <;> try contradiction
  · rename_i k k' n
    by_cases e : k = k'
    · subst e; simp only [decide_true, cond_true] at h; obtain rfl := Option.some.inj h; rfl
    · simp [e] at h
  · cases h; rfl
  · cases h; rfl
  · cases h; rfl
  · rename_i k k' n
    by_cases e : k = k'
    · subst e; simp only [decide_true, cond_true] at h; obtain rfl := Option.some.inj h; rfl
    · simp [e] at h
  · cases h; rfl
theorem Tup.un_mk : ∀ {ts : List CT} {cs : List C} {x : Tup ts}, Tup.un ts cs = some x → cs = Tup.mk ts x
  | [], [], _, _ => rfl
  | t :: r, c :: cs, x, h => by
    simp only [Tup.un] at h
    cases h1 : t.un c with
    | none => simp [h1] at h
    | some y =>
      cases h2 : Tup.un r cs with
      | none => simp [h1, h2] at h
      | some z =>
        rw [h1, h2] at h
        obtain rfl := Option.some.inj h
        rw [CT.un_mk h1, Tup.un_mk h2]; rfl
  | [], _ :: _, _, h => by simp [Tup.un] at h
  | _ :: _, [], _, h => by simp [Tup.un] at h
theorem Ty.un_mk : ∀ {t : Ty} {w : W} {x : t.T}, t.un w = some x → w = t.mk x
  | .one c, .one y, x, h => congrArg W.one (CT.un_mk (t := c) (c := y) (x := x) h)
  | .agg c, .agg y, x, h => congrArg W.agg (Tup.un_mk (ts := c) (cs := y) (x := x) h)
  | .one _, .agg _, _, h => by cases h
  | .agg _, .one _, _, h => by cases h
theorem TL.un_mk : ∀ {ts : List Ty} {vs : List V} {x : TL ts}, TL.un ts vs = some x → vs = (TL.mk ts x).map V.w
  | [], [], _, _ => rfl
  | t :: r, c :: cs, x, h => by
    cases c <;> simp only [TL.un] at h <;> try contradiction
    rename_i c
    cases h1 : t.un c with
    | none => simp [h1] at h
    | some y =>
      cases h2 : TL.un r cs with
      | none => simp [h1, h2] at h
      | some z =>
        rw [h1, h2] at h
        obtain rfl := Option.some.inj h
        rw [Ty.un_mk h1, TL.un_mk h2]; rfl
  | [], _ :: _, _, h => by simp [TL.un] at h
  | _ :: _, [], _, h => by simp [TL.un] at h

theorem Option.bind_some_inv {α β : Type} {x : Option α} {f : α → Option β} {r : β} (h : x.bind f = some r) : ∃ y, x = some y ∧ f y = some r := by
  cases x with
  | none => cases h
  | some y => exact ⟨y, rfl, h⟩
theorem cond_some_inv {β : Type} {b : Bool} {x : Option β} {r : β} (h : (bif b then x else none) = some r) : b = true ∧ x = some r := by
  cases b with
  | false => cases h
  | true => exact ⟨rfl, h⟩

section
variable {P : Program} {o : Oper} {a : Act} {w : World} {next : Act → World → Prop} {Q : Exit → Act → World → Prop}

theorem wp_value {v : Value} {w' : World} (h : (execOp a.eval o).run P w = .ok (.value v) w') (hn : next (a.put o.dst v) w') : o.wp P a w next Q := by
  unfold Oper.wp; rw [h]; exact hn
theorem wp_skip' {w' : World} (h : (execOp a.eval o).run P w = .ok .skip w') (hn : next (a.put o.dst undef) w') : o.wp P a w next Q := by
  unfold Oper.wp; rw [h]; exact hn
theorem wp_sem {s : Sem Value} {v : Value} {w' : World} (he : execOp a.eval o = (do pure (Next.value (← s)))) (hs : s.run P w = .ok v w') (hn : next (a.put o.dst v) w') : o.wp P a w next Q :=
  wp_value (by rw [he]; simp [hs, Result.andThen]) hn

theorem run_info {t : TypeId} {i : TypeInfo} (h : P.info? t = some i) : (typeInfo t).run P w = .ok i w := by
  simp [typeInfo, h, program, Sem.run]
theorem run_size {t : TypeId} {n : Nat} (h : sizeIs P t n = true) : (Go.sizeOf t).run P w = .ok n w := by
  unfold sizeIs at h
  cases hi : P.info? t with
  | none => simp [hi] at h
  | some i => simp [hi] at h; simp [Go.sizeOf, run_info hi, h, Result.andThen]
theorem run_isAgg {t : TypeId} {b : Bool} (h : aggB P t = some b) : (isAgg t).run P w = .ok b w := by
  unfold aggB at h
  cases hi : P.underlying t with
  | none => simp [hi] at h
  | some d =>
    simp only [isAgg, Sem.run_bind, run_underlying hi, Result.andThen]
    cases d <;> simp_all
theorem run_zero {t : TypeId} {z : List C} (h : zeroIs P t z = true) : ∃ v, (zeroValue t).run P w = .ok v w ∧ ∀ ρ, CsRel ρ z v.cells.toList := by
  unfold zeroIs at h
  cases hi : P.info? t with
  | none => simp [hi] at h
  | some i =>
    cases hz : i.zero with
    | none => simp [hi, hz] at h
    | some v =>
      simp [hi, hz] at h
      exact ⟨v, by simp [zeroValue, run_info hi, hz, Result.andThen], fun ρ => csOK_rel h ρ⟩

/-- What the evaluator's step gives to what follows. -/
def Goes {R0 : Type} (k : V → Heap → Option R0) (r : R0) (ρ : Rho) (H : Heap) (w : World) (P : Program) (o : Oper) (a : Act) : Prop :=
  ∀ (next : Act → World → Prop) (Q : Exit → Act → World → Prop),
    (∀ v v' H' ρ' w', k v H' = some r → VRel ρ' v v' → R ρ' H' w' → Ext ρ H w ρ' H' w' → next (a.put o.dst v') w') → o.wp P a w next Q

theorem goes_same {R0 : Type} {k : V → Heap → Option R0} {r : R0} {ρ : Rho} {H : Heap} {v : V} {v' : Value} {s : Sem Value}
    (he : execOp a.eval o = (do pure (Next.value (← s)))) (hs : s.run P w = .ok v' w) (hk : k v H = some r) (hv : VRel ρ v v') (hR : R ρ H w) : Goes k r ρ H w P o a :=
  fun _ _ hn => wp_sem he hs (hn _ _ _ _ _ hk hv hR (Ext.refl _ _ _))
theorem goes_same' {R0 : Type} {k : V → Heap → Option R0} {r : R0} {ρ : Rho} {H : Heap} {v : V} {v' : Value}
    (hs : (execOp a.eval o).run P w = .ok (.value v') w) (hk : k v H = some r) (hv : VRel ρ v v') (hR : R ρ H w) : Goes k r ρ H w P o a :=
  fun _ _ hn => wp_value hs (hn _ _ _ _ _ hk hv hR (Ext.refl _ _ _))

variable {R0 : Type} {k : V → Heap → Option R0} {r : R0} {ρ : Rho} {H : Heap} {e : Env} {calls : Nat → Option Callee} {fids : Nat → Option FuncId}

theorem vrel_int {ρ : Rho} {v : V} {x : Value} (h : VRel ρ v x) {kd : IntKind} {n : Int} (hv : v = .w (.one (.int kd n))) : x = .int kd n := by subst hv; exact h
theorem vrel_bool {ρ : Rho} {v : V} {x : Value} (h : VRel ρ v x) {b : Bool} (hv : v = .w (.one (.bool b))) : x = .bool b := by subst hv; exact h
theorem vrel_str {ρ : Rho} {v : V} {x : Value} (h : VRel ρ v x) {b : Bytes} (hv : v = .w (.one (.str b))) : ∃ y : ByteArray, x = .string y ∧ y.data.toList = b := by subst hv; exact h

theorem go_mv (hR : R ρ H w) (he : EnvRel ρ e a) {x : Opd} (ok : opOK P fids (.mv x) o.op = true) (hev : evOp calls (.mv x) e H k = some r) : Goes k r ρ H w P o a := by
  simp only [evOp] at hev
  cases ho : o.op <;> rw [ho] at ok <;> simp only [opOK] at ok <;> try contradiction
  · exact goes_same' (by simp [execOp, ho]) hev (opd_rel he ok) hR
  · exact goes_same' (by simp [execOp, ho]) hev (opd_rel he ok) hR

theorem go_pick (hR : R ρ H w) (he : EnvRel ρ e a) {c x y : Opd} (ok : opOK P fids (.pick c x y) o.op = true) (hev : evOp calls (.pick c x y) e H k = some r) : Goes k r ρ H w P o a := by
  simp only [evOp] at hev
  cases ho : o.op <;> rw [ho] at ok <;> simp only [opOK] at ok <;> try contradiction
  rename_i c' x' y'
  simp only [Bool.and_eq_true] at ok
  obtain ⟨⟨o1, o2⟩, o3⟩ := ok
  have h1 := opd_rel he o1
  split at hev
  · rename_i t ht
    have hb := vrel_bool h1 ht
    cases t
    · exact goes_same' (v' := a.eval y') (by simp [execOp, ho, hb, asBool]) hev (opd_rel he o3) hR
    · exact goes_same' (v' := a.eval x') (by simp [execOp, ho, hb, asBool]) hev (opd_rel he o2) hR
  · contradiction

theorem go_nilc (hR : R ρ H w) (he : EnvRel ρ e a) {x : Opd} (ok : opOK P fids (.nilc x) o.op = true) (hev : evOp calls (.nilc x) e H k = some r) : Goes k r ρ H w P o a := by
  simp only [evOp] at hev
  cases ho : o.op <;> rw [ho] at ok <;> simp only [opOK] at ok <;> try contradiction
  rename_i y
  have h1 := opd_rel he ok
  split at hev
  · rename_i p hp
    cases p with
    | none => simp at hev
    | some b =>
      rw [hp] at h1
      obtain ⟨pl, h2, h3⟩ := (h1 : CRel ρ (.ptr (some b)) _)
      exact goes_same' (v' := a.eval y) (by simp [execOp, ho, h3]) hev ⟨pl, h2, h3⟩ hR
  · contradiction

theorem go_addr (hR : R ρ H w) (he : EnvRel ρ e a) {off : Nat} {x : Opd} (ok : opOK P fids (.addr off x) o.op = true) (hev : evOp calls (.addr off x) e H k = some r) : Goes k r ρ H w P o a := by
  simp only [evOp] at hev
  cases ho : o.op <;> rw [ho] at ok <;> simp only [opOK] at ok <;> try contradiction
  rename_i t y f
  simp only [Bool.and_eq_true] at ok
  obtain ⟨o1, o2⟩ := ok
  have h1 := opd_rel he o1
  split at o2
  · rename_i fs hfs
    split at o2
    · rename_i fl hfl
      split at o2
      · rename_i i hi
        simp only [Bool.and_eq_true, decide_eq_true_eq] at o2
        split at hev
        · rename_i p hp
          cases p with
          | none => simp at hev
          | some b =>
            rw [hp] at h1
            obtain ⟨pl, h2, h3⟩ := (h1 : CRel ρ (.ptr (some b)) _)
            have hz : (Go.sizeOf fl.type).run P w = .ok i.size w := run_size (by simp [sizeIs, hi])
            refine goes_same (s := Instr.fieldAt t (a.eval y) f) (v' := .pointer (some ⟨pl.k, pl.base + (b.2 + off), none⟩)) (by simp [execOp, ho]) ?_ hev ⟨pl, h2, rfl⟩ hR
            simp only [Instr.fieldAt, Sem.run_bind, run_underlying hfs, Result.andThen, hfl, h3, Instr.sureAddr, Sem.run_pure, fieldPlace, hz, o2.2, if_false]
            rw [Addr.add_lit, ← o2.1, Nat.add_assoc]
        · contradiction
      · simp at o2
    · contradiction
  · contradiction

theorem go_ext (hR : R ρ H w) (he : EnvRel ρ e a) {i : Nat} {x : Opd} (ok : opOK P fids (.ext x i) o.op = true) (hev : evOp calls (.ext x i) e H k = some r) : Goes k r ρ H w P o a := by
  simp only [evOp] at hev
  cases ho : o.op <;> rw [ho] at ok <;> simp only [opOK] at ok <;> try contradiction
  rename_i y j
  simp only [Bool.and_eq_true, decide_eq_true_eq] at ok
  obtain ⟨o1, rfl⟩ := ok
  have h1 := opd_rel he o1
  split at hev
  · rename_i ws hws
    obtain ⟨u, hu, hk⟩ := Option.bind_some_inv hev
    rw [hws] at h1
    obtain ⟨vs, h2, h3⟩ := h1
    have hg : ∀ {ws : List W} {vs : List Value} {i : Nat} {u : W}, WsRel ρ ws vs → ws[i]? = some u → ∃ v, vs[i]? = some v ∧ WRel ρ u v := by
      intro ws
      induction ws with
      | nil => intro vs i u _ h; simp at h
      | cons x xs ih =>
        intro vs i u hr h
        cases vs with
        | nil => exact hr.elim
        | cons y ys =>
          cases i with
          | zero => simp at h; subst h; exact ⟨y, by simp, hr.1⟩
          | succ i => simp at h; obtain ⟨v, q1, q2⟩ := ih hr.2 h; exact ⟨v, by simpa using q1, q2⟩
    obtain ⟨v, h4, h5⟩ := hg h3 hu
    exact goes_same (s := Instr.extract (a.eval y) i) (v' := v) (by simp [execOp, ho]) (by simp [Instr.extract, h2, h4]) hk h5 hR
  · contradiction

theorem go_un (hR : R ρ H w) (he : EnvRel ρ e a) {op : UnOp} {x : Opd} (ok : opOK P fids (.un op x) o.op = true) (hev : evOp calls (.un op x) e H k = some r) : Goes k r ρ H w P o a := by
  simp only [evOp] at hev
  cases ho : o.op <;> rw [ho] at ok <;> simp only [opOK] at ok <;> try contradiction
  rename_i op' t y
  simp only [Bool.and_eq_true, decide_eq_true_eq] at ok
  obtain ⟨rfl, o1⟩ := ok
  have h1 := opd_rel he o1
  unfold unV at hev
  split at hev
  · rename_i kd n hx
    have hb := vrel_int h1 hx
    exact goes_same (s := Op.unary .neg (a.eval y)) (by simp [execOp, ho]) (by simp only [hb, Op.unary, Op.intArith, Sem.run_pure]) hev rfl hR
  · rename_i kd n hx
    have hb := vrel_int h1 hx
    exact goes_same (s := Op.unary .xor (a.eval y)) (by simp [execOp, ho]) (by simp only [hb, Op.unary, Op.intBits, Sem.run_pure]; rfl) hev rfl hR
  · rename_i b hx
    have hb := vrel_bool h1 hx
    exact goes_same (s := Op.unary .not (a.eval y)) (by simp [execOp, ho]) (by simp only [hb, Op.unary, Sem.run_pure]) hev rfl hR
  · contradiction

theorem go_conv (hR : R ρ H w) (he : EnvRel ρ e a) {kd : IntKind} {x : Opd} (ok : opOK P fids (.conv kd x) o.op = true) (hev : evOp calls (.conv kd x) e H k = some r) : Goes k r ρ H w P o a := by
  simp only [evOp] at hev
  cases ho : o.op <;> rw [ho] at ok <;> simp only [opOK] at ok <;> try contradiction
  rename_i s d y
  simp only [Bool.and_eq_true] at ok
  obtain ⟨⟨o1, o2⟩, o3⟩ := ok
  have h1 := opd_rel he o1
  split at hev
  · rename_i kd' n hx
    have hb := vrel_int h1 hx
    obtain ⟨ds, hs⟩ := Option.isSome_iff_exists.1 o3
    have hd : P.underlying d = some (.int kd) := by
      unfold isInt at o2; split at o2 <;> simp_all
    exact goes_same (s := convert s d (a.eval y)) (by simp [execOp, ho]) (by simp only [hb, convert, Sem.run_bind, run_underlying hs, run_underlying hd, Result.andThen, Conv.intToInt, Sem.run_pure]) hev rfl hR
  · contradiction

theorem go_cstr (hR : R ρ H w) (he : EnvRel ρ e a) {x : Opd} (ok : opOK P fids (.cstr x) o.op = true) (hev : evOp calls (.cstr x) e H k = some r) : Goes k r ρ H w P o a := by
  simp only [evOp] at hev
  cases ho : o.op <;> rw [ho] at ok <;> simp only [opOK] at ok <;> try contradiction
  rename_i s d y
  simp only [Bool.and_eq_true] at ok
  obtain ⟨⟨o1, o2⟩, o3⟩ := ok
  have h1 := opd_rel he o1
  split at hev
  · rename_i t hx
    obtain ⟨z, hb, hz⟩ := vrel_str h1 hx
    obtain ⟨ds, hs⟩ := Option.isSome_iff_exists.1 o3
    have hd : P.underlying d = some .string := by
      unfold isStr at o2; split at o2 <;> simp_all
    exact goes_same (s := convert s d (a.eval y)) (v' := .string z) (by simp [execOp, ho]) (by simp only [hb, convert, Sem.run_bind, run_underlying hs, run_underlying hd, Result.andThen, Sem.run_pure]) hev ⟨z, rfl, hz⟩ hR
  · contradiction


end
end Ev
