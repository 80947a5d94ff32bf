/- Kinds of operations; a new block that enters late. -/
import Derived.Test.YtnndecgjcgpmbaaEvNat
namespace Ev
open Go

inductive Kl where
  | P
  | R
  | A
  | E
  deriving DecidableEq

def AOp.kl (calls : Nat → Option Callee) : AOp → Kl
  | .load _ _ | .b2s _ => .R
  | .new _ | .box _ | .bslice _ _ _ _ | .mk _ _ _ _ _ => .A
  | .store _ _ _ | .app _ _ _ _ | .cpy _ _ _ | .clr _ _ | .s2b _ => .E
  | .call f _ => match calls f with
    | some (.pure _ _ _) => .P
    | _ => .E
  | _ => .P

def blkOf : V → Option Nat
  | .w (.one (.ptr (some a))) => some a.1
  | .w (.one (.sl _ ⟨some a, _, _⟩)) => some a.1
  | _ => none

section
variable {calls : Nat → Option Callee} {e : Env} {H H' : Heap} {v : V} {op : AOp}

theorem binI_P {R0 : Type} (op : BinOp) (kd : IntKind) (a b : Int) (H G : Heap) (k : V → Heap → Option R0) : binI op kd a b H k = binI op kd a b G fun v _ => k v H := by cases op <;> rfl
theorem binS_P {R0 : Type} (op : BinOp) (a b : Bytes) (H G : Heap) (k : V → Heap → Option R0) : binS op a b H k = binS op a b G fun v _ => k v H := by cases op <;> rfl
theorem shiftI_P {R0 : Type} (op : BinOp) (kd : IntKind) (a b : Int) (H G : Heap) (k : V → Heap → Option R0) : shiftI op kd a b H k = shiftI op kd a b G fun v _ => k v H := by cases op <;> rfl
theorem binV_P {R0 : Type} (op : BinOp) (x y : V) (H G : Heap) (k : V → Heap → Option R0) : binV op x y H k = binV op x y G fun v _ => k v H := by
  unfold binV
  split
  · rw [shiftI_P op _ _ _ H G, binI_P op _ _ _ H G]
  · exact binS_P _ _ _ _ _ _
  · rfl
theorem unV_P {R0 : Type} (op : UnOp) (x : V) (H G : Heap) (k : V → Heap → Option R0) : unV op x H k = unV op x G fun v _ => k v H := by
  unfold unV; split <;> rfl

theorem evOp_P {R0 : Type} (h : op.kl calls = .P) (H G : Heap) (k : V → Heap → Option R0) : evOp calls op e H k = evOp calls op e G fun v _ => k v H := by
  cases op <;> first | (simp [AOp.kl] at h; done) | skip
  case bin op x y => exact binV_P _ _ _ _ _ _
  case un op x => exact unV_P _ _ H G k
  case call f xs =>
    simp only [AOp.kl] at h
    simp only [evOp]
    cases hc : calls f with
    | none => rfl
    | some c =>
      rw [hc] at h
      cases c with
      | pure ps rs g => rfl
      | quiet ps rs g => cases h
      | full ps rs g => cases h
  all_goals rfl

theorem ev1_P (h : op.kl calls = .P) (hev : ev1 calls op e H = some (v, H')) : H' = H ∧ ∀ G, ev1 calls op e G = some (v, G) := by
  unfold ev1 at *
  have key : ∀ G, evOp calls op e G (fun v H' => some (v, H')) = (evOp calls op e H fun v H' => some (v, H')).map fun p => (p.1, G) := by
    intro G
    rw [evOp_P h G H]
    have := evOp_nat (calls := calls) (e := e) op H (fun v H' => some (v, H')) fun p => some (p.1, G)
    rw [Option.map_eq_bind]
    exact this.symm
  have h1 := key H
  rw [hev] at h1
  simp only [Option.map_some, Option.some.injEq, Prod.mk.injEq, true_and] at h1
  exact ⟨h1, fun G => by rw [key G, hev]; rfl⟩

theorem cell_grow {H : Heap} {b o : Nat} {c : C} (bs : Heap) (h : H.cell b o = some c) : Heap.cell (H ++ bs) b o = some c := by
  unfold Heap.cell at *
  split at h
  · rename_i cs bk hb
    have hlt : b < H.length := (List.getElem?_eq_some_iff.1 hb).1
    rw [List.getElem?_append_left hlt, hb]
    exact h
  · cases h
theorem row_grow {H : Heap} {b o n : Nat} {c : List C} (bs : Heap) (h : H.row b o n = some c) : Heap.row (H ++ bs) b o n = some c := by
  unfold Heap.row at *
  split at h
  · rename_i cs bk hb
    have hlt : b < H.length := (List.getElem?_eq_some_iff.1 hb).1
    rw [List.getElem?_append_left hlt, hb]
    exact h
  · cases h
theorem rd_grow {H : Heap} {ty : Ty} {b o : Nat} {v : ty.T} (bs : Heap) (h : rd H ty b o = some v) : rd (H ++ bs) ty b o = some v := by
  cases ty with
  | one c =>
    obtain ⟨x, h1, h2⟩ := Option.bind_some_inv h
    show (Heap.cell (H ++ bs) b o).bind c.un = some v
    rw [cell_grow bs h1]; exact h2
  | agg cs =>
    obtain ⟨x, h1, h2⟩ := Option.bind_some_inv h
    show (Heap.row (H ++ bs) b o cs.length).bind (Tup.un cs) = some v
    rw [row_grow bs h1]; exact h2
theorem slRow_grow {H : Heap} {es : Nat} {s : Sl} {cs : List C} (bs : Heap) (h : slRow H es s = some cs) : slRow (H ++ bs) es s = some cs := by
  unfold slRow at *
  split at h
  · exact h
  · exact row_grow bs h

theorem ev1_R (h : op.kl calls = .R) (hev : ev1 calls op e H = some (v, H')) : H' = H ∧ ∀ bs, ev1 calls op e (H ++ bs) = some (v, H ++ bs) := by
  unfold ev1 at *
  have nope : ∀ {f xs}, op = .call f xs → False := by
    rintro f xs rfl
    simp only [AOp.kl] at h
    split at h <;> cases h
  cases op <;> first | (cases h; done) | skip
  case load ty x =>
    simp only [evOp] at *
    split at hev
    · rename_i p hp
      obtain ⟨b, rfl, h2⟩ := Option.bind_some_inv hev
      obtain ⟨u, h3, h4⟩ := Option.bind_some_inv h2
      cases h4
      refine ⟨rfl, fun bs => ?_⟩
      simp only [Option.bind_some, rd_grow bs h3]
    · cases hev
  case b2s x =>
    simp only [evOp] at *
    split at hev
    · rename_i es s hp
      obtain ⟨hb, h2⟩ := cond_some_inv hev
      obtain ⟨u, h3, h4⟩ := Option.bind_some_inv h2
      cases h4
      refine ⟨rfl, fun bs => ?_⟩
      unfold strOf at *
      obtain ⟨cs, h5, h6⟩ := Option.bind_some_inv h3
      rw [hb, slRow_grow bs h5]
      simp only [Option.bind_some, h6, cond_true]
    · cases hev
  case call f xs => exact (nope rfl).elim

theorem ev1_A (h : op.kl calls = .A) (hev : ev1 calls op e H = some (v, H')) : ∃ cs, initCells e op some = some cs ∧ H' = H ++ [.cells cs .exact] ∧ blkOf v = some H.length := by
  unfold ev1 at *
  have nope : ∀ {f xs}, op = .call f xs → False := by
    rintro f xs rfl
    simp only [AOp.kl] at h
    split at h <;> cases h
  cases op <;> first | (cases h; done) | skip
  case new z => cases hev; exact ⟨z, rfl, rfl, rfl⟩
  case box x =>
    simp only [evOp, initCells] at *
    split at hev
    · rename_i c hc; cases hev; exact ⟨[c], rfl, rfl, rfl⟩
    · rename_i cs hc; cases hev; exact ⟨cs, rfl, rfl, rfl⟩
    · cases hev
  case bslice es l z ps =>
    simp only [evOp, initCells] at *
    obtain ⟨cs, h1, h2⟩ := Option.bind_some_inv hev
    cases h2
    exact ⟨cs, by rw [h1]; rfl, rfl, rfl⟩
  case mk es b z l c =>
    simp only [evOp, initCells] at *
    obtain ⟨k1, l, e1, hev1⟩ := int?_some hev
    obtain ⟨k2, c, e2, hev2⟩ := int?_some hev1
    obtain ⟨p, h1, h2⟩ := Option.bind_some_inv hev2
    unfold mkS at h1
    obtain ⟨h3, h4⟩ := cond_some_inv h1
    cases h4
    cases h2
    exact ⟨_, by rw [e2]; rfl, rfl, rfl⟩
  case call f xs => exact (nope rfl).elim
end

section
variable {P : Program} {o : Oper} {a : Act} {w : World} {ρ : Rho} {H : Heap} {e : Env} {calls : Nat → Option Callee} {fids : Nat → Option FuncId} {v : V} {cs : List C} {op : AOp}

/-- What the machine does where a block is made. -/
theorem alloc_spec (he : EnvRel ρ e a) (hk : op.kl calls = .A) (ok : opOK P fids op o.op = true) (hev : ev1 calls op e H = some (v, H ++ [.cells cs .exact])) (w : World) :
    ∃ (vs : Array Value) (el : TypeId) (v' : Value), (execOp a.eval o).run P w = .ok (.value v') (w.alloc (.cells vs el)) ∧ CsRel ρ cs vs.toList ∧
      ∀ ρ' : Rho, ρ' H.length = some ⟨w.heap.size, 0, cs.length, cs.length, false⟩ → VRel ρ' v v' := by
  have nope : ∀ {f xs}, op = .call f xs → False := by
    rintro f xs rfl
    simp only [AOp.kl] at hk
    split at hk <;> cases hk
  have hcs : ∀ {cs' : List C}, H ++ [Blk.cells cs' .exact] = H ++ [Blk.cells cs .exact] → cs' = cs := by
    intro cs' h
    have := List.append_cancel_left h
    cases this; rfl
  have var : ∀ {v' : Value} {t : TypeId}, v = .w (.one (.ptr (some (H.length, 0)))) → CsRel ρ cs v'.cells.toList →
      (execOp a.eval o).run P w = .ok (.value (.pointer (some ⟨w.heap.size, 0, none⟩))) (w.alloc (.cells v'.cells t)) →
      ∃ (vs : Array Value) (el : TypeId) (v' : Value), (execOp a.eval o).run P w = .ok (.value v') (w.alloc (.cells vs el)) ∧ CsRel ρ cs vs.toList ∧
      ∀ ρ' : Rho, ρ' H.length = some ⟨w.heap.size, 0, cs.length, cs.length, false⟩ → VRel ρ' v v' := by
    intro v' t hv hc hx
    subst hv
    exact ⟨_, _, _, hx, hc, fun ρ' hρ => (⟨_, hρ, rfl⟩ : CRel ρ' (.ptr (some (H.length, 0))) _)⟩
  unfold ev1 at hev
  cases op <;> first | (cases hk; done) | skip
  case new z =>
    cases ho : o.op <;> rw [ho] at ok <;> simp only [opOK] at ok <;> try contradiction
    rename_i t
    simp only [evOp, Option.some.injEq, Prod.mk.injEq] at hev
    have := hcs hev.2
    subst this
    obtain ⟨u, h1, h2⟩ := run_zero (P := P) (w := w) ok
    exact var (t := t) hev.1.symm (h2 ρ) (by simp [execOp, ho, Instr.alloc, h1, Result.andThen, newVar, newRow])
  case box x =>
    cases ho : o.op <;> rw [ho] at ok <;> simp only [opOK] at ok <;> try contradiction
    rename_i t y
    have h1 := opd_rel he ok
    have main : ∀ u : W, x.ev e = .w u → v = .w (.one (.ptr (some (H.length, 0)))) → u.cs = cs → ∃ (vs : Array Value) (el : TypeId) (v' : Value), (execOp a.eval o).run P w = .ok (.value v') (w.alloc (.cells vs el)) ∧ CsRel ρ cs vs.toList ∧
      ∀ ρ' : Rho, ρ' H.length = some ⟨w.heap.size, 0, cs.length, cs.length, false⟩ → VRel ρ' v v' := by
      intro u e1 hv hu
      rw [e1] at h1
      have := WRel.cs (x := u) (v := a.eval y) h1
      rw [hu] at this
      exact var (v' := a.eval y) (t := t) hv this (by simp [execOp, ho, Instr.box, Result.andThen, newVar, newRow])
    simp only [evOp] at hev
    split at hev
    · rename_i c e1
      simp only [Option.some.injEq, Prod.mk.injEq] at hev
      exact main (.one c) e1 hev.1.symm (hcs hev.2)
    · rename_i c e1
      simp only [Option.some.injEq, Prod.mk.injEq] at hev
      exact main (.agg c) e1 hev.1.symm (hcs hev.2)
    · cases hev
  case bslice es len z ps =>
    simp only [evOp] at hev
    obtain ⟨cs', h1, hk⟩ := Option.bind_some_inv hev
    simp only [Option.some.injEq, Prod.mk.injEq] at hk
    obtain ⟨hv, hcc⟩ := hk
    have := hcs hcc
    subst this
    subst hv
    cases ho : o.op <;> rw [ho] at ok <;> simp only [opOK] at ok <;> try contradiction
    rename_i t len' parts
    split at ok
    · rename_i el hel
      have hu := elem_spec hel
      simp only [Bool.and_eq_true, decide_eq_true_eq] at ok
      obtain ⟨⟨⟨⟨⟨o1, rfl⟩, o3⟩, o4⟩, o5⟩, o6⟩ := ok
      obtain ⟨vs', g1, g2, g3⟩ := bslice_run (P := P) (w := w) he hu o1 o3 o4 o5 o6 h1
      refine ⟨vs', el, .slice (some ⟨w.heap.size, 0, none⟩) len len, ?_, g1, ?_⟩
      · have hexec : execOp a.eval o = (do pure (Next.value (← Instr.buildSlice t len (parts.map fun (i, x) => (i, a.eval x))))) := by simp only [execOp, ho]
        revert hexec g2
        generalize Instr.buildSlice t len (parts.map fun (i, x) => (i, a.eval x)) = s
        intro hrun hexec
        rw [hexec]
        simp only [Sem.run_bind, hrun, Result.andThen, Sem.run_pure]
      · intro ρ' hρ
        have hsl : SlOK ⟨w.heap.size, 0, cs'.length, cs'.length, false⟩ es 0 len len ⟨w.heap.size, 0, none⟩ len :=
          ⟨rfl, rfl, Nat.le_refl _, by rw [g3, Nat.zero_add]; exact Nat.le_refl _, .inl ⟨rfl, Nat.le_refl _, .inl rfl, by rw [g3]; simp⟩⟩
        exact (⟨_, _, _, hρ, rfl, hsl⟩ : CRel ρ' (.sl es ⟨some (H.length, 0), len, len⟩) (.slice (some ⟨w.heap.size, 0, none⟩) len len))
    · cases ok
  case mk es bytes z l c =>
    simp only [evOp] at hev
    cases ho : o.op <;> rw [ho] at ok <;> simp only [opOK] at ok <;> try contradiction
    rename_i t y y'
    simp only [Bool.and_eq_true, decide_eq_true_eq] at ok
    obtain ⟨⟨⟨⟨o1, o2⟩, o3⟩, o4⟩, o5⟩ := ok
    split at o5
    · rename_i el hel
      simp only [Bool.and_eq_true] at o5
      obtain ⟨⟨q1, q2⟩, q3⟩ := o5
      have hu := elem_spec hel
      obtain ⟨k1, l, e1, hev1⟩ := int?_some hev
      obtain ⟨k2, c, e2, hev2⟩ := int?_some hev1
      have b1 := vrel_int (opd_rel he o1) e1
      have b2 := vrel_int (opd_rel he o2) e2
      obtain ⟨p, h1, hk⟩ := Option.bind_some_inv hev2
      unfold mkS at h1
      obtain ⟨h2, h3⟩ := cond_some_inv h1
      obtain ⟨g1, g2, g3, g4⟩ := of_decide_eq_true h2
      cases h3
      simp only [Option.some.injEq, Prod.mk.injEq] at hk
      obtain ⟨hv, hcc⟩ := hk
      have := hcs hcc
      subst this
      subst hv
      unfold sizeIs at q1
      unfold bytesIs at q2
      unfold zeroIs at q3
      cases hi : P.info? el with
      | none => simp [hi] at q1
      | some i =>
        simp only [hi, decide_eq_true_eq, Bool.and_eq_true] at q1 q2 q3
        cases hz : i.zero with
        | none => simp [hz] at q3
        | some zz =>
          simp only [hz] at q3
          have hzr := csOK_rel q3 ρ
          have hzl := hzr.length
          have hzs : zz.cells.size = es := by rw [← o4, hzl]; simp
          have hb : (i.bytes : Int) * c ≤ 281474976710656 := by
            unfold maxRow at g3
            have : ((c.toNat * bytes : Nat) : Int) ≤ 2 ^ 45 := by exact_mod_cast g3
            rw [q2.1]
            have hc : (c.toNat : Int) = c := by omega
            rw [Int.natCast_mul, hc, Int.mul_comm] at this
            omega
          have hrun := run_make (P := P) w t el i zz hu hi hz k1 k2 l c g1 g2 hb (by unfold maxRow at g4; omega)
          have hmade : madeCells zz.cells (c.toNat * i.size) = ((List.replicate c.toNat zz.cells.toList).flatten).toArray := by
            apply Array.ext'
            rw [q1, ← hzs]
            simp only [madeCells]
            rw [range_zero _ _ (by omega)]
          have hfl : ((List.replicate c.toNat zz.cells.toList).flatten).length = c.toNat * es := by
            simp only [List.length_flatten, List.map_replicate, List.sum_replicate_nat, Array.length_toList, hzs]
          have hrl : (rep c.toNat z).length = c.toNat * es := by rw [rep_length, o4]
          refine ⟨madeCells zz.cells (c.toNat * i.size), el, .slice (some ⟨w.heap.size, 0, none⟩) l.toNat c.toNat, ?_, ?_, ?_⟩
          · simp only [execOp, ho, b1, b2, Sem.run_bind, hrun, Result.andThen, Sem.run_pure]
          · rw [hmade]; exact rep_rel hzr _
          · intro ρ' hρ
            have hsl : SlOK ⟨w.heap.size, 0, (rep c.toNat z).length, (rep c.toNat z).length, false⟩ es 0 l.toNat c.toNat ⟨w.heap.size, 0, none⟩ c.toNat :=
              ⟨rfl, rfl, by omega, by simp [hrl], .inl ⟨rfl, Nat.le_refl _, .inl rfl, by simp [hrl]⟩⟩
            exact (⟨_, _, _, hρ, rfl, hsl⟩ : CRel ρ' (.sl es ⟨some (H.length, 0), l.toNat, c.toNat⟩) (.slice (some ⟨w.heap.size, 0, none⟩) l.toNat c.toNat))
    · cases o5
  case call f xs => exact (nope rfl).elim

theorem R.enter {ρ : Rho} {H : Heap} {w : World} (r : R ρ H w) {b : Nat} {cs : List C} {vs : Array Value} {el : TypeId} (hb : H[b]? = some (.cells cs .exact)) (hn : ρ b = none) (hc : CsRel ρ cs vs.toList) :
    R (ρ.set b ⟨w.heap.size, 0, cs.length, cs.length, false⟩) H (w.alloc (.cells vs el)) := by
  have hle := Rho.le_set ⟨w.heap.size, 0, cs.length, cs.length, false⟩ hn
  have hl := hc.length
  have hw : (w.alloc (.cells vs el)).heap = w.heap.push (.cells vs el) := rfl
  have hold : ∀ k, k < w.heap.size → (w.alloc (.cells vs el)).heap[k]? = w.heap[k]? := fun k hk => by rw [hw, getElem?_push_lt _ _ hk]
  have hblt : b < H.length := (List.getElem?_eq_some_iff.1 hb).1
  refine ⟨?_, ?_, ?_, r.nomap⟩
  · intro x pl h
    by_cases e : x = b
    · subst e; exact hblt
    · rw [Rho.set_other _ _ e] at h; exact r.dom _ _ h
  · intro x pl acs bk h1 h2
    by_cases e : x = b
    · subst e
      rw [Rho.set_same] at h1
      cases h1
      rw [hb] at h2
      cases h2
      refine ⟨⟨vs.toList, el, (0, 0), ?_, hl.symm, ?_, fun _ j _ h => absurd h (Nat.not_lt_zero _)⟩, rfl, by simp, fun _ => ⟨rfl, rfl, rfl⟩, fun h => absurd rfl h⟩
      · rw [hw]; simp
      · have ht : vs.toList.take cs.length = vs.toList := by rw [hl, List.take_length]
        simp only [List.drop_zero, ht]; exact hc.mono hle
    · rw [Rho.set_other _ _ e] at h1
      have q := r.blk x pl acs bk h1 h2
      exact (q.world (hold _ q.lt)).mono hle
  · intro x y pl pl' a1 a2 k1 k2 hne h1 h1' h2 h2' hr
    by_cases e : x = b
    · subst e
      rw [Rho.set_same] at h1
      cases h1
      rw [Rho.set_other _ _ (Ne.symm hne)] at h1'
      have := (r.blk _ _ _ _ h1' h2').lt
      simp; omega
    · rw [Rho.set_other _ _ e] at h1
      by_cases e' : y = b
      · subst e'
        rw [Rho.set_same] at h1'
        cases h1'
        have := (r.blk _ _ _ _ h1 h2).lt
        simp; omega
      · rw [Rho.set_other _ _ e'] at h1'
        exact r.sep x y pl pl' a1 a2 k1 k2 hne h1 h1' h2 h2' hr

theorem Ext.enter {ρ0 ρ : Rho} {H0 H : Heap} {w0 w : World} (x : Ext ρ0 H0 w0 ρ H w) {b : Nat} {cs : List C} {o : Obj} (hb : H0.length ≤ b) (hn : ρ b = none) :
    Ext ρ0 H0 w0 (ρ.set b ⟨w.heap.size, 0, cs.length, cs.length, false⟩) H (w.alloc o) := by
  have hw : (w.alloc o).heap = w.heap.push o := rfl
  refine ⟨Rho.le_trans x.le (Rho.le_set _ hn), x.len, ?_, x.wr, ?_, x.os, x.tape, x.output, ?_⟩
  · intro y pl h1 h2
    by_cases e : y = b
    · subst e
      rw [Rho.set_same] at h1
      cases h1
      exact ⟨hb, .inl x.size⟩
    · rw [Rho.set_other _ _ e] at h1
      exact x.new y pl h1 h2
  · rw [hw]; simp; exact Nat.le_succ_of_le x.size
  · intro j hj hno
    rw [hw, getElem?_push_lt _ _ (Nat.lt_of_lt_of_le hj x.size)]
    exact x.frame j hj hno

theorem R.grow {ρ : Rho} {H : Heap} {w : World} (r : R ρ H w) {bs : Heap} (hbs : ∀ x ∈ bs, ∃ cs bk, x = Blk.cells cs bk) : R ρ (H ++ bs) w := by
  have hget : ∀ {b : Nat} {pl : Pl} {x : Blk}, ρ b = some pl → (H ++ bs)[b]? = some x → H[b]? = some x := by
    intro b pl x h1 h2
    rw [List.getElem?_append_left (r.dom _ _ h1)] at h2
    exact h2
  refine ⟨fun b pl h => by rw [List.length_append]; exact Nat.lt_of_lt_of_le (r.dom b pl h) (Nat.le_add_right _ _), fun b pl acs bk h1 h2 => r.blk b pl acs bk h1 (hget h1 h2),
    fun b b' pl pl' a1 a2 k1 k2 hne h1 h1' h2 h2' hr => r.sep b b' pl pl' a1 a2 k1 k2 hne h1 h1' (hget h1 h2) (hget h1' h2') hr, ?_⟩
  intro b es h
  rcases Nat.lt_or_ge b H.length with hb | hb
  · rw [List.getElem?_append_left hb] at h; exact r.nomap b es h
  · rw [List.getElem?_append_right hb] at h
    obtain ⟨cs, bk, hh⟩ := hbs _ (List.mem_of_getElem? h)
    cases hh

theorem Ext.grow {ρ0 ρ : Rho} {H0 H : Heap} {w0 w : World} (x : Ext ρ0 H0 w0 ρ H w) (bs : Heap) : Ext ρ0 H0 w0 ρ (H ++ bs) w := by
  refine ⟨x.le, by rw [List.length_append]; exact Nat.le_trans x.len (Nat.le_add_right _ _), x.new, ?_, x.size, x.os, x.tape, x.output, x.frame⟩
  rintro b hb ⟨cs, bk, h1, h2⟩
  rw [List.getElem?_append_left (Nat.lt_of_lt_of_le hb x.len)] at h1
  exact x.wr b hb ⟨cs, bk, h1, h2⟩

end
end Ev
