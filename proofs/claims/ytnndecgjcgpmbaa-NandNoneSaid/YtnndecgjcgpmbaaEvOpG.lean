/- structs and rows by parts, fields, == of structs. -/
import Derived.Test.YtnndecgjcgpmbaaEvOpF
namespace Ev
open Go
section
variable {P : Program} {o : Oper} {a : Act} {w : World} {next : Act → World → Prop} {Q : Exit → Act → World → Prop}
variable {R0 : Type} {k : V → Heap → Option R0} {r : R0} {ρ : Rho} {H : Heap} {e : Env} {calls : Nat → Option Callee} {fids : Nat → Option FuncId}

theorem zip_setV : ∀ (us : List Value) (cs : Array Value) (off j : Nat), ((us.zipIdx j).foldl (fun cs (c, j) => cs.setIfInBounds (off + j) c) cs).toList = setV cs.toList (off + j) us
  | [], _, _, _ => rfl
  | u :: r, cs, off, j => by
    simp only [List.zipIdx_cons, List.foldl_cons, setV]
    rw [zip_setV r _ off (j + 1)]
    rw [Array.toList_setIfInBounds, Nat.add_assoc]

theorem zipA_setV (us : Array Value) (cs : Array Value) (off : Nat) : (us.zipIdx.foldl (fun cs (c, j) => cs.setIfInBounds (off + j) c) cs).toList = setV cs.toList off us.toList := by
  have := zip_setV us.toList cs off 0
  rw [Nat.add_zero] at this
  rw [← this, ← Array.foldl_toList, Array.toList_zipIdx]

theorem fill_rel (he : EnvRel ρ e a) {place : Nat → Option (Nat × Nat)} : ∀ {ps : List (Nat × Nat × Opd)} {parts : List (Nat × Operand)} {cs cs' : List C} {vs : Array Value},
    partsOK place ps parts = true → CsRel ρ cs vs.toList → fillParts e cs ps = some cs' →
    ∃ vs', Instr.fill place vs (parts.map fun (i, x) => (i, a.eval x)) = some vs' ∧ CsRel ρ cs' vs'.toList
  | [], [], cs, cs', vs, _, h, hf => by cases hf; exact ⟨vs, rfl, h⟩
  | (off, n, x) :: ps, (i, y) :: parts, cs, cs', vs, ok, h, hf => by
    simp only [partsOK, Bool.and_eq_true, decide_eq_true_eq] at ok
    obtain ⟨⟨o1, o2⟩, o3⟩ := ok
    have hx := opd_rel he o2
    have hlen := h.length
    -- one part
    have main : ∀ u : W, x.ev e = .w u → n = u.cs.length → off + n ≤ cs.length → fillParts e (setL cs off u.cs) ps = some cs' →
        ∃ vs', Instr.fill place vs (((i, y) :: parts).map fun (i, x) => (i, a.eval x)) = some vs' ∧ CsRel ρ cs' vs'.toList := by
      intro u e1 hn hle hk
      rw [e1] at hx
      have hc := WRel.cs (ρ := ρ) (x := u) (v := a.eval y) hx
      have hcl := hc.length
      obtain ⟨vs', g1, g2⟩ := fill_rel he (vs := ((a.eval y).cells.zipIdx.foldl (fun cs (c, j) => cs.setIfInBounds (off + j) c) vs)) o3 (by rw [zipA_setV]; exact h.setL off hc) hk
      refine ⟨vs', ?_, g2⟩
      simp only [List.map_cons, Instr.fill, o1]
      rw [if_neg, g1]
      simp only [Array.length_toList] at hcl hlen
      intro hh
      simp only [ne_eq, gt_iff_lt, Bool.or_eq_true, decide_eq_true_eq] at hh
      omega
    simp only [fillParts] at hf
    split at hf
    · rename_i c e1
      obtain ⟨h1, h2⟩ := cond_some_inv hf
      simp only [Bool.and_eq_true, decide_eq_true_eq] at h1
      exact main (.one c) e1 h1.1 (by rw [h1.1]; exact h1.2) h2
    · rename_i xs e1
      obtain ⟨h1, h2⟩ := cond_some_inv hf
      simp only [Bool.and_eq_true, decide_eq_true_eq] at h1
      exact main (.agg xs) e1 h1.1 h1.2 h2
    · cases hf
  | [], _ :: _, _, _, _, ok, _, _ => by simp [partsOK] at ok
  | _ :: _, [], _, _, _, ok, _, _ => by simp [partsOK] at ok

theorem zeroIs_spec {t : TypeId} {z : List C} (h : zeroIs P t z = true) : ∃ i zz, P.info? t = some i ∧ i.zero = some zz ∧ ∀ ρ, CsRel ρ z zz.cells.toList := by
  unfold zeroIs at h
  cases hi : P.info? t with
  | none => simp [hi] at h
  | some i =>
    cases hz : i.zero with
    | none => simp [hi, hz] at h
    | some v =>
      simp [hi, hz] at h
      exact ⟨i, v, rfl, hz, fun ρ => csOK_rel h ρ⟩

theorem map_parts (parts : Array (Nat × Operand)) : (parts.map fun (i, x) => (i, a.eval x)).toList = parts.toList.map fun (i, x) => (i, a.eval x) := by
  rw [Array.toList_map]

theorem go_build (hR : R ρ H w) (he : EnvRel ρ e a) {z : List C} {ps : List (Nat × Nat × Opd)} (ok : opOK P fids (.build z ps) o.op = true) (hev : evOp calls (.build z ps) e H k = some r) : Goes k r ρ H w P o a := by
  simp only [evOp] at hev
  obtain ⟨cs, h1, hk⟩ := Option.bind_some_inv hev
  cases ho : o.op <;> rw [ho] at ok <;> simp only [opOK] at ok <;> try contradiction
  rename_i t parts
  simp only [Bool.and_eq_true] at ok
  obtain ⟨o1, o2⟩ := ok
  obtain ⟨it, zz, hi, hz, hrel⟩ := zeroIs_spec o1
  have fin : ∀ vs' : Array Value, P.built t (parts.toList.map fun (i, x) => (i, a.eval x)) = some vs' → CsRel ρ cs vs'.toList → Goes k r ρ H w P o a := by
    intro vs' hb hc
    rw [← map_parts] at hb
    exact goes_same (s := Instr.build t (parts.map fun (i, x) => (i, a.eval x))) (by simp only [execOp, ho]) (run_build w t _ _ hb) hk ⟨vs'.toList, by simp, hc⟩ hR
  split at o2
  · rename_i fs hu
    split at o2
    · rename_i places hp
      obtain ⟨vs', g1, g2⟩ := fill_rel he o2 (hrel ρ) h1
      exact fin vs' (by simp only [Program.built, hi, hu, hz, hp, g1]) g2
    · cases o2
  · rename_i n el hu
    split at o2
    · rename_i j hj
      obtain ⟨vs', g1, g2⟩ := fill_rel he o2 (hrel ρ) h1
      exact fin vs' (by simp only [Program.built, hi, hu, hz, hj, g1]) g2
    · cases o2
  · cases o2

/-- A new block, of which the run is known. -/
theorem alloc_goes (hR : R ρ H w) {cs : List C} {vs : Array Value} {el : TypeId} {v : V} {v' : Value} {s : Sem Value} (hc : CsRel ρ cs vs.toList)
    (hx : execOp a.eval o = (do pure (Next.value (← s)))) (hs : s.run P w = .ok v' (w.alloc (.cells vs el)))
    (hv : ∀ ρ', ρ' H.length = some ⟨w.heap.size, 0, cs.length, cs.length, false⟩ → VRel ρ' v v')
    (hk : k v (H ++ [.cells cs .exact]) = some r) : Goes k r ρ H w P o a := by
  have hl := hc.length
  obtain ⟨r1, r2⟩ := hR.alloc (w' := w.alloc (.cells vs el)) cs .exact vs.toList el (0, 0) (by rw [Array.toArray_toList]; rfl) rfl rfl rfl
    (by rw [hl, List.take_length]; exact hc) (by omega) (fun _ => hl.symm) (by intro j _ h; exact absurd h (Nat.not_lt_zero _))
  intro next Q hn
  refine wp_sem hx hs (hn _ _ _ _ _ hk (hv _ ?_) r1 r2)
  rw [Rho.set_same, ← hl]
  simp

theorem bslice_run (he : EnvRel ρ e a) {t el : TypeId} {es len : Nat} {z cs : List C} {ps : List (Nat × Nat × Opd)} {parts : Array (Nat × Operand)} (hu : P.underlying t = some (.slice el)) (o1 : sizeIs P el es = true)
    (o3 : len * es ≤ 2 ^ 24) (o4 : 0 < es) (o5 : (match P.info? el with
      | some i => match i.zero with
        | some zz => decide (zz.cells.size = es) && csOK z ((Array.range (len * es)).map (zz.cells[· % zz.cells.size]!)).toList
        | none => false
      | none => false) = true) (o6 : partsOK (fun i => some (i * es, es)) ps parts.toList = true) (h1 : fillParts e z ps = some cs) :
    ∃ vs' : Array Value, CsRel ρ cs vs'.toList ∧ (Instr.buildSlice t len (parts.map fun (i, x) => (i, a.eval x))).run P w = .ok (.slice (some ⟨w.heap.size, 0, none⟩) len len) (w.alloc (.cells vs' el)) ∧ cs.length = len * es := by
  have hsz := run_size (w := w) o1
  split at o5
  · rename_i i hi
    split at o5
    · rename_i zz hz
      simp only [Bool.and_eq_true, decide_eq_true_eq] at o5
      have hrel := csOK_rel o5.2 ρ
      obtain ⟨vs', g1, g2⟩ := fill_rel he o6 hrel h1
      have hzv : (zeroValue el).run P w = .ok zz w := by simp [zeroValue, run_info hi, hz, Result.andThen]
      have hcl : cs.length = len * es := by
        have hfl : ∀ {ps : List (Nat × Nat × Opd)} {a b : List C}, fillParts e a ps = some b → b.length = a.length := by
          intro ps
          induction ps with
          | nil => intro a b h; cases h; rfl
          | cons p ps ih =>
            intro a b h
            obtain ⟨o', n', x'⟩ := p
            simp only [fillParts] at h
            split at h
            · obtain ⟨_, h2⟩ := cond_some_inv h
              rw [ih h2, setL_length]
            · obtain ⟨_, h2⟩ := cond_some_inv h
              rw [ih h2, setL_length]
            · cases h
        rw [hfl h1]
        have := hrel.length
        rw [this]; simp
      refine ⟨vs', g2, ?_, hcl⟩
      simp only [Instr.buildSlice, Sem.run_bind, run_underlying hu, Result.andThen, hsz, map_parts]
      rw [if_neg (by omega)]
      by_cases h0 : len * es = 0
      · have hl0 : len = 0 := by
          rcases Nat.mul_eq_zero.1 h0 with h | h
          · exact h
          · omega
        subst hl0
        have hr0 : Array.range (0 * es) = #[] := by rw [Nat.zero_mul]; rfl
        rw [hr0, Array.map_empty] at g1
        have hr1 : Array.range 0 = #[] := rfl
        simp only [Nat.zero_mul, if_true, Sem.run_bind, Sem.run_pure, Result.andThen, hr1, Array.map_empty]
        rw [show (parts.toList.map fun (x : Nat × Operand) => (x.fst, a.eval x.snd)) = parts.toList.map fun (i, x) => (i, a.eval x) from rfl, g1]
        rfl
      · rw [if_neg h0]
        simp only [Sem.run_bind, hzv, Result.andThen, Sem.run_pure, g1]
        rfl
    · cases o5
  · cases o5

theorem go_bslice (hR : R ρ H w) (he : EnvRel ρ e a) {es len : Nat} {z : List C} {ps : List (Nat × Nat × Opd)} (ok : opOK P fids (.bslice es len z ps) o.op = true) (hev : evOp calls (.bslice es len z ps) e H k = some r) : Goes k r ρ H w P o a := by
  simp only [evOp] at hev
  obtain ⟨cs, h1, hk⟩ := Option.bind_some_inv hev
  cases ho : o.op <;> rw [ho] at ok <;> simp only [opOK] at ok <;> try contradiction
  rename_i t len' parts
  split at ok
  · rename_i el hel
    have hu := elem_spec hel
    simp only [Bool.and_eq_true, decide_eq_true_eq] at ok
    obtain ⟨⟨⟨⟨⟨o1, rfl⟩, o3⟩, o4⟩, o5⟩, o6⟩ := ok
    obtain ⟨vs', g2, hrun, hcl⟩ := bslice_run (P := P) (w := w) he hu o1 o3 o4 o5 o6 h1
    have hexec : execOp a.eval o = (do pure (Next.value (← Instr.buildSlice t len (parts.map fun (i, x) => (i, a.eval x))))) := by simp only [execOp, ho]
    revert hexec hrun
    generalize Instr.buildSlice t len (parts.map fun (i, x) => (i, a.eval x)) = s
    intro hrun hexec
    refine alloc_goes hR g2 hexec hrun ?_ hk
    intro ρ' hρ
    have hsl : SlOK ⟨w.heap.size, 0, cs.length, cs.length, false⟩ es 0 len len ⟨w.heap.size, 0, none⟩ len :=
      ⟨rfl, rfl, Nat.le_refl _, by rw [hcl, Nat.zero_add]; exact Nat.le_refl _, .inl ⟨rfl, Nat.le_refl _, .inl rfl, by rw [hcl]; simp⟩⟩
    exact (⟨_, _, _, hρ, rfl, hsl⟩ : CRel ρ' (.sl es ⟨some (H.length, 0), len, len⟩) (.slice (some ⟨w.heap.size, 0, none⟩) len len))
  · cases ok

theorem CsRel.cut {cs xs : List C} {vs : List Value} {off n : Nat} (h : CsRel ρ cs vs) (hc : Ev.cut cs off n = some xs) : CsRel ρ xs ((vs.drop off).take n) ∧ off + n ≤ vs.length := by
  unfold Ev.cut at hc
  obtain ⟨h1, h2⟩ := cond_some_inv hc
  have h1 := of_decide_eq_true h1
  cases h2
  exact ⟨(h.drop off).take n, by rw [← h.length]; exact h1⟩

theorem extract_list (vs : List Value) (x y : Nat) : (vs.toArray.extract x y) = ((vs.drop x).take (y - x)).toArray := by
  simp [List.extract_toArray]

theorem go_field (hR : R ρ H w) (he : EnvRel ρ e a) {ty : Ty} {off : Nat} {x : Opd} (ok : opOK P fids (.field ty off x) o.op = true) (hev : evOp calls (.field ty off x) e H k = some r) : Goes k r ρ H w P o a := by
  simp only [evOp] at hev
  cases ho : o.op <;> rw [ho] at ok <;> simp only [opOK] at ok <;> try contradiction
  rename_i t y f
  simp only [Bool.and_eq_true] at ok
  obtain ⟨o1, o2⟩ := ok
  split at o2
  · rename_i fs hu
    split at o2
    · rename_i fl hfl
      simp only [Bool.and_eq_true, decide_eq_true_eq] at o2
      obtain ⟨rfl, o3⟩ := o2
      have hx := opd_rel he o1
      split at hev
      · rename_i cs e1
        rw [e1] at hx
        obtain ⟨vs, hv, hrel⟩ := hx
        cases ty with
        | one c =>
          obtain ⟨v, h1, h2⟩ := Option.bind_some_inv hev
          obtain ⟨v2, h3, hk⟩ := Option.bind_some_inv h2
          obtain ⟨u, g1, g2⟩ := hrel.get h1
          have hun := CT.un_mk h3
          simp only [tyOK, decide_eq_true_eq] at o3
          have hag := run_isAgg (w := w) o3
          refine goes_same (s := Instr.field t (a.eval y) f) (v' := u) (by simp only [execOp, ho]) ?_ hk (by rw [← hun]; exact g2) hR
          simp only [Instr.field, Sem.run_bind, run_underlying hu, Result.andThen, hfl, hv, asAgg, Sem.run_pure, part, hag]
          simp [g1]
        | agg ts =>
          obtain ⟨v, h1, h2⟩ := Option.bind_some_inv hev
          obtain ⟨v2, h3, hk⟩ := Option.bind_some_inv h2
          have hun := Tup.un_mk h3
          simp only [tyOK, Bool.and_eq_true, decide_eq_true_eq] at o3
          have hag := run_isAgg (w := w) o3.1
          have hsz := run_size (w := w) o3.2
          obtain ⟨g1, g2⟩ := hrel.cut h1
          refine goes_same (s := Instr.field t (a.eval y) f) (v' := .agg ((vs.drop fl.offset).take ts.length).toArray) (by simp only [execOp, ho]) ?_ hk ⟨_, rfl, by rw [← hun]; exact g1⟩ hR
          simp only [Instr.field, Sem.run_bind, run_underlying hu, Result.andThen, hfl, hv, asAgg, Sem.run_pure, part, hag, if_true, hsz, extract_list, Nat.add_sub_cancel_left]
      · cases hev
    · cases o2
  · cases o2

end
end Ev
