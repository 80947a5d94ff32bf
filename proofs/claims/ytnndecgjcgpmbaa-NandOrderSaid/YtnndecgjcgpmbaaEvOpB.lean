/- Operators. -/
import Derived.Test.YtnndecgjcgpmbaaEvOp
import Derived.WalkLawsBesides
import Derived.Laws.Small
import Derived.Laws.Cover3
import Derived.Laws.StructEq
namespace Ev
open Go
section
variable {P : Program} {o : Oper} {a : Act} {w : World} {next : Act → World → Prop} {Q : Exit → Act → World → Prop}
variable {R0 : Type} {k : V → Heap → Option R0} {r : R0} {ρ : Rho} {H : Heap} {e : Env} {calls : Nat → Option Callee} {fids : Nat → Option FuncId}

theorem toList_eq (x : ByteArray) : x.toList = x.data.toList := by
  exact (ByteArray.toList_eq x)

theorem go_bin (hR : R ρ H w) (he : EnvRel ρ e a) {op : BinOp} {x y : Opd} (ok : opOK P fids (.bin op x y) o.op = true) (hev : evOp calls (.bin op x y) e H k = some r) : Goes k r ρ H w P o a := by
  simp only [evOp] at hev
  cases ho : o.op <;> rw [ho] at ok <;> simp only [opOK] at ok <;> try contradiction
  rename_i op' t x' y' t'
  simp only [Bool.and_eq_true, decide_eq_true_eq] at ok
  obtain ⟨⟨rfl, o1⟩, o2⟩ := ok
  have h1 := opd_rel he o1
  have h2 := opd_rel he o2
  have hx : execOp a.eval o = (do pure (Next.value (← (do eqGuard op t x' y' (a.eval x') (a.eval y'); binOp op t (a.eval x') (a.eval y'))))) := by simp [execOp, ho]
  unfold binV at hev
  split at hev
  · rename_i kd n kd' m e1 e2
    have b1 := vrel_int h1 e1
    have b2 := vrel_int h2 e2
    rw [b1, b2] at hx
    by_cases hs : op = .shl ∨ op = .shr
    · have hsh : (decide (op = .shl) || decide (op = .shr)) = true := by simpa using hs
      rw [hsh] at hev
      simp only [cond_true] at hev
      unfold shiftI at hev
      by_cases hneg : m < 0
      · simp [hneg] at hev
      · simp only [hneg, decide_false, cond_false] at hev
        rcases hs with rfl | rfl
        · refine goes_same hx ?_ hev rfl hR
          simp only [eqGuard_at_int, binOp, Op.shift, hneg, if_false, Sem.run_bind, Sem.run_pure, Result.andThen]
        · refine goes_same hx ?_ hev rfl hR
          simp only [eqGuard_at_int, binOp, Op.shift, hneg, if_false, Sem.run_bind, Sem.run_pure, Result.andThen]
    · have hsh : (decide (op = .shl) || decide (op = .shr)) = false := by simpa using hs
      rw [hsh] at hev
      simp only [cond_false] at hev
      obtain ⟨hk, hev2⟩ := cond_some_inv hev
      clear hev
      have hk := of_decide_eq_true hk
      subst hk
      unfold binI at hev2
      split at hev2
      · exact goes_same hx (by simp [eqGuard_at_int, go_sem]) hev2 rfl hR
      · exact goes_same hx (by simp [eqGuard_at_int, go_sem]) hev2 rfl hR
      · exact goes_same hx (by simp [eqGuard_at_int, go_sem]) hev2 rfl hR
      · by_cases hz : m = 0
        · simp [hz] at hev2
        · simp only [hz, decide_false, cond_false] at hev2
          exact goes_same hx (by simp [eqGuard_at_int, binOp, Op.intDiv, hz]) hev2 rfl hR
      · by_cases hz : m = 0
        · simp [hz] at hev2
        · simp only [hz, decide_false, cond_false] at hev2
          exact goes_same hx (by simp [eqGuard_at_int, binOp, Op.intDiv, hz]) hev2 rfl hR
      · exact goes_same hx (by simp [eqGuard_at_int, binOp, Op.intBits, bitsI]) hev2 rfl hR
      · exact goes_same hx (by simp [eqGuard_at_int, binOp, Op.intBits, bitsI]) hev2 rfl hR
      · exact goes_same hx (by simp [eqGuard_at_int, binOp, Op.intBits, bitsI]) hev2 rfl hR
      · exact goes_same hx (by simp [eqGuard_at_int, binOp, Op.intBits, bitsI]) hev2 rfl hR
      · exact goes_same hx (v' := .bool (decide (n = m))) (by simp [eqGuard_at_int, binOp, Op.intCmp]; rfl) hev2 rfl hR
      · exact goes_same hx (v' := .bool (!decide (n = m))) (by simp [eqGuard_at_int, binOp, Op.intCmp]; rfl) hev2 rfl hR
      · exact goes_same hx (v' := .bool (decide (n < m))) (by simp only [eqGuard_at_int, binOp_lss, Sem.run_bind, Sem.run_pure, Result.andThen]) hev2 rfl hR
      · exact goes_same hx (v' := .bool (decide (n ≤ m))) (by simp only [eqGuard_at_int, binOp_leq, Sem.run_bind, Sem.run_pure, Result.andThen]) hev2 rfl hR
      · exact goes_same hx (v' := .bool (decide (m < n))) (by simp only [eqGuard_at_int, binOp_gtr, Sem.run_bind, Sem.run_pure, Result.andThen]) hev2 rfl hR
      · exact goes_same hx (v' := .bool (decide (m ≤ n))) (by simp only [eqGuard_at_int, binOp_geq, Sem.run_bind, Sem.run_pure, Result.andThen]) hev2 rfl hR
      · contradiction
  · rename_i s t2 e1 e2
    obtain ⟨z1, b1, q1⟩ := vrel_str h1 e1
    obtain ⟨z2, b2, q2⟩ := vrel_str h2 e2
    rw [b1, b2] at hx
    have l1 : z1.toList = s := by rw [toList_eq, q1]
    have l2 : z2.toList = t2 := by rw [toList_eq, q2]
    unfold binS at hev
    split at hev
    · obtain ⟨u, hu, hk⟩ := Option.bind_some_inv hev
      unfold catS at hu
      obtain ⟨hu1, hu2⟩ := cond_some_inv hu
      have hu1 := of_decide_eq_true hu1
      cases hu2
      have hsz : z1.size + z2.size ≤ 9223372036854775807 := by
        have g1 : z1.size = s.length := by rw [← q1, Array.length_toList]; rfl
        have g2 : z2.size = t2.length := by rw [← q2, Array.length_toList]; rfl
        unfold maxStr at hu1
        omega
      refine goes_same hx (v' := .string (z1 ++ z2)) ?_ hk ⟨_, rfl, ?_⟩ hR
      · simp only [eqGuard_at_string, binOp, Sem.run_bind, Sem.run_pure, Result.andThen]
        exact run_string_add_sum w z1 z2 hsz
      · simp [q1, q2]
    · exact goes_same hx (v' := .bool (decide (s = t2))) (by simp [eqGuard_at_string, binOp, Op.stringOp, l1, l2]; rw [Bool.eq_iff_iff]; simp) hev rfl hR
    · exact goes_same hx (v' := .bool (!decide (s = t2))) (by simp [eqGuard_at_string, binOp, Op.stringOp, l1, l2]; rw [Bool.eq_iff_iff]; simp) hev rfl hR
    · contradiction
  · contradiction

theorem negB_eq (neg b : Bool) : negB neg b = if neg then !b else b := by cases neg <;> rfl

theorem run_eqn {neg : Bool} {t : TypeId} {x y : Value} {b : Bool} (hni : ∀ k a, x ≠ .int k a) (hns : ∀ s, x ≠ .string s) (hnf : ∀ k s, x ≠ .float k s) (hnc : ∀ k s u, x ≠ .complex k s u)
    (h : (Op.equal t x y).run P w = .ok b w) : (binOp (bif neg then .neq else .eql) t x y).run P w = .ok (.bool (negB neg b)) w := by
  cases neg <;> cases x <;> first
    | exact absurd rfl (hni _ _)
    | exact absurd rfl (hns _)
    | exact absurd rfl (hnf _ _)
    | exact absurd rfl (hnc _ _ _)
    | (simp only [cond_true, cond_false]; simp [binOp, h, negB, Result.andThen])

theorem run_ptr_nil (d : Nat) (t el : TypeId) (p : Option Addr) (h : P.underlying t = some (.pointer el)) : (Op.equalIn (d + 1) t (.pointer p) (.pointer none)).run P w = .ok p.isNone w := by
  cases p <;> simp [Op.equalIn, run_underlying h]

theorem go_eqb (hR : R ρ H w) (he : EnvRel ρ e a) {neg : Bool} {x y : Opd} (ok : opOK P fids (.eqb neg x y) o.op = true) (hev : evOp calls (.eqb neg x y) e H k = some r) : Goes k r ρ H w P o a := by
  simp only [evOp] at hev
  cases ho : o.op <;> rw [ho] at ok <;> simp only [opOK] at ok <;> try contradiction
  rename_i op' t x' y' t'
  simp only [Bool.and_eq_true, decide_eq_true_eq] at ok
  obtain ⟨⟨⟨rfl, o1⟩, o2⟩, o3⟩ := ok
  have h1 := opd_rel he o1
  have h2 := opd_rel he o2
  split at hev
  · rename_i b1 b2 e1 e2
    have g1 := vrel_bool h1 e1
    have g2 := vrel_bool h2 e2
    have hu : P.underlying t = some .bool := by split at o3 <;> simp_all
    refine goes_same (s := do eqGuard (bif neg then .neq else .eql) t x' y' (a.eval x') (a.eval y'); binOp (bif neg then .neq else .eql) t (a.eval x') (a.eval y')) (by simp [execOp, ho]) ?_ hev rfl hR
    rw [g1, g2]
    simp only [eqGuard_at_bool, Sem.run_bind, Sem.run_pure, Result.andThen]
    refine run_eqn (by simp) (by simp) (by simp) (by simp) ?_
    exact run_equal_bool w t b1 b2 hu
  · contradiction

theorem go_isnil (hR : R ρ H w) (he : EnvRel ρ e a) {neg : Bool} {x : Opd} (ok : opOK P fids (.isnil neg x) o.op = true) (hev : evOp calls (.isnil neg x) e H k = some r) : Goes k r ρ H w P o a := by
  simp only [evOp] at hev
  cases ho : o.op <;> rw [ho] at ok <;> simp only [opOK] at ok <;> try contradiction
  rename_i op' t x' y' t'
  simp only [Bool.and_eq_true, decide_eq_true_eq] at ok
  obtain ⟨⟨⟨rfl, o1⟩, o2⟩, o3⟩ := ok
  have h1 := opd_rel he o1
  have hy : a.eval y' = .pointer none := by split at o2 <;> simp_all [Act.eval]
  split at o3
  · rename_i el hu
    split at hev
    · rename_i p e1
      rw [e1] at h1
      have hp : ∃ q : Option Addr, a.eval x' = .pointer q ∧ q.isNone = p.isNone := by
        cases p with
        | none => exact ⟨none, h1, rfl⟩
        | some b => obtain ⟨pl, _, h3⟩ := (h1 : CRel ρ (.ptr (some b)) _); exact ⟨_, h3, rfl⟩
      obtain ⟨q, hq, hn⟩ := hp
      refine goes_same (s := do eqGuard (bif neg then .neq else .eql) t x' y' (a.eval x') (a.eval y'); binOp (bif neg then .neq else .eql) t (a.eval x') (a.eval y')) (by simp [execOp, ho]) ?_ hev rfl hR
      rw [hq, hy, ← hn]
      simp only [eqGuard_at_pointer, Sem.run_bind, Sem.run_pure, Result.andThen]
      refine run_eqn (by simp) (by simp) (by simp) (by simp) ?_
      exact run_ptr_nil 9999 t el q hu
    · contradiction
  · contradiction

theorem go_isnils (hR : R ρ H w) (he : EnvRel ρ e a) {neg : Bool} {x : Opd} (ok : opOK P fids (.isnils neg x) o.op = true) (hev : evOp calls (.isnils neg x) e H k = some r) : Goes k r ρ H w P o a := by
  simp only [evOp] at hev
  cases ho : o.op <;> rw [ho] at ok <;> simp only [opOK] at ok <;> try contradiction
  rename_i op' t x' y' t'
  simp only [Bool.and_eq_true, decide_eq_true_eq] at ok
  obtain ⟨⟨⟨rfl, o1⟩, o2⟩, o3⟩ := ok
  have h1 := opd_rel he o1
  have hy : a.eval y' = .slice none 0 0 := by split at o2 <;> simp_all [Act.eval]
  split at o3
  · rename_i el hu
    split at hev
    · rename_i es s e1
      rw [e1] at h1
      have hp : ∃ (q : Option Addr) (l c : Nat), a.eval x' = .slice q l c ∧ q.isNone = s.p.isNone := by
        obtain ⟨p, l, c⟩ := s
        cases p with
        | none => obtain ⟨_, _, h3⟩ := (h1 : CRel ρ (.sl es ⟨none, l, c⟩) _); exact ⟨none, 0, 0, h3, rfl⟩
        | some b => obtain ⟨pl, x, cp, _, h3, _⟩ := (h1 : CRel ρ (.sl es ⟨some b, l, c⟩) _); exact ⟨_, _, _, h3, rfl⟩
      obtain ⟨q, l, c, hq, hn⟩ := hp
      refine goes_same (s := do eqGuard (bif neg then .neq else .eql) t x' y' (a.eval x') (a.eval y'); binOp (bif neg then .neq else .eql) t (a.eval x') (a.eval y')) (by simp [execOp, ho]) ?_ hev rfl hR
      rw [hq, hy, ← hn]
      simp only [eqGuard_at_slice, Sem.run_bind, Sem.run_pure, Result.andThen]
      refine run_eqn (by simp) (by simp) (by simp) (by simp) ?_
      exact run_equal_slice_nil w t el q l c hu
    · contradiction
  · contradiction

end
end Ev
