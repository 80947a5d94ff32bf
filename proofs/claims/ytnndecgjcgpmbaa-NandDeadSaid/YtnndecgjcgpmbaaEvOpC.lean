/- Slices, texts, rows that grow. -/
import Derived.Test.YtnndecgjcgpmbaaEvOpM
import Derived.Lib.Strings
import Derived.Lib.ConvBytes
import Derived.Laws.BytesString
import Derived.Laws.IdiomStrings
import Derived.Laws.MakeOwn
namespace Ev
open Go
section
variable {P : Program} {o : Oper} {a : Act} {w : World} {next : Act → World → Prop} {Q : Exit → Act → World → Prop}
variable {R0 : Type} {k : V → Heap → Option R0} {r : R0} {ρ : Rho} {H : Heap} {e : Env} {calls : Nat → Option Callee} {fids : Nat → Option FuncId}

theorem slOK_spec {t : TypeId} {es : Nat} (h : slOK P t es = true) : ∃ el, P.underlying t = some (.slice el) ∧ sizeIs P el es = true := by
  unfold slOK elemIs at h
  split at h
  · rename_i el h1
    split at h1
    · rename_i e h2; cases h1; exact ⟨_, h2, h⟩
    · cases h1
  · cases h
theorem elem_spec {t el : TypeId} (h : elemIs P t = some el) : P.underlying t = some (.slice el) := by
  unfold elemIs at h
  split at h
  · rename_i e h2; cases h; exact h2
  · cases h
theorem isStr_spec {t : TypeId} (h : isStr P t = true) : P.underlying t = some .string := by
  unfold isStr at h; split at h <;> simp_all

theorem vrel_sl {v : V} {x : Value} (h : VRel ρ v x) {es : Nat} {s : Sl} (hv : v = .w (.one (.sl es s))) : CRel ρ (.sl es s) x := by subst hv; exact h
theorem vrel_ptr {v : V} {x : Value} (h : VRel ρ v x) {p : Ptr} (hv : v = .w (.one (.ptr p))) : CRel ρ (.ptr p) x := by subst hv; exact h

theorem int?_some {v : V} {f : Int → Option R0} (h : v.int? f = some r) : ∃ kd n, v = .w (.one (.int kd n)) ∧ f n = some r := by
  unfold V.int? at h
  split at h
  · exact ⟨_, _, rfl, h⟩
  · cases h

theorem sl_shape {es : Nat} {s : Sl} {x : Value} (h : CRel ρ (.sl es s) x) : ∃ q c, x = .slice q s.len c ∧ (q.isNone = s.p.isNone) := by
  obtain ⟨p, l, c⟩ := s
  cases p with
  | none => obtain ⟨h1, h2, h3⟩ := h; subst h1; exact ⟨none, 0, h3, rfl⟩
  | some b => obtain ⟨pl, x, cp, _, h3, _⟩ := h; exact ⟨some x, cp, h3, rfl⟩

theorem go_len (hR : R ρ H w) (he : EnvRel ρ e a) {x : Opd} (ok : opOK P fids (.len x) o.op = true) (hev : evOp calls (.len x) e H k = some r) : Goes k r ρ H w P o a := by
  simp only [evOp] at hev
  cases ho : o.op <;> rw [ho] at ok <;> simp only [opOK] at ok <;> try contradiction
  rename_i c
  obtain ⟨callee, args, ats⟩ := c
  simp only at ok
  split at ok
  · rename_i y rest t h2 h3
    simp only [Bool.and_eq_true] at ok
    obtain ⟨o1, o2⟩ := ok
    obtain ⟨el, hel⟩ := Option.isSome_iff_exists.1 o2
    have hu := elem_spec hel
    split at hev
    · rename_i es s e1
      obtain ⟨q, cp, hx, _⟩ := sl_shape (vrel_sl (opd_rel he o1) e1)
      have ha : args = (y :: rest).toArray := by rw [← h2]
      refine goes_same' (v' := .int .i64 (s.len : Int)) ?_ hev rfl hR
      subst ha
      simp [execOp, ho, resolve, invoke, builtin, Builtin.len_, h3, hx, run_underlying hu, Result.andThen, goInt]
    · cases hev
  · cases ok

theorem go_lens (hR : R ρ H w) (he : EnvRel ρ e a) {x : Opd} (ok : opOK P fids (.lens x) o.op = true) (hev : evOp calls (.lens x) e H k = some r) : Goes k r ρ H w P o a := by
  simp only [evOp] at hev
  cases ho : o.op <;> rw [ho] at ok <;> simp only [opOK] at ok <;> try contradiction
  rename_i c
  obtain ⟨callee, args, ats⟩ := c
  simp only at ok
  split at ok
  · rename_i y rest t h2 h3
    simp only [Bool.and_eq_true] at ok
    obtain ⟨o1, o2⟩ := ok
    have hu := isStr_spec o2
    split at hev
    · rename_i s e1
      obtain ⟨z, hx, hz⟩ := vrel_str (opd_rel he o1) e1
      have ha : args = (y :: rest).toArray := by rw [← h2]
      have hl : z.size = s.length := by rw [← hz, Array.length_toList]; rfl
      refine goes_same' (v' := .int .i64 (s.length : Int)) ?_ hev rfl hR
      subst ha
      simp [execOp, ho, resolve, invoke, builtin, Builtin.len_, h3, hx, run_underlying hu, Result.andThen, goInt, hl]
    · cases hev
  · cases ok

theorem go_index (hR : R ρ H w) (he : EnvRel ρ e a) {x i : Opd} (ok : opOK P fids (.index x i) o.op = true) (hev : evOp calls (.index x i) e H k = some r) : Goes k r ρ H w P o a := by
  simp only [evOp] at hev
  cases ho : o.op <;> rw [ho] at ok <;> simp only [opOK] at ok <;> try contradiction
  rename_i t y j
  simp only [Bool.and_eq_true] at ok
  obtain ⟨⟨o1, o2⟩, o3⟩ := ok
  have hu := isStr_spec o3
  split at hev
  · rename_i s e1
    obtain ⟨z, hx, hz⟩ := vrel_str (opd_rel he o1) e1
    obtain ⟨kd, n, e2, hev2⟩ := int?_some hev
    have hi := vrel_int (opd_rel he o2) e2
    obtain ⟨m, h1, hk⟩ := Option.bind_some_inv hev2
    unfold idxS at h1
    obtain ⟨h2, h3⟩ := cond_some_inv h1
    obtain ⟨b, h4, h5⟩ := Option.bind_some_inv h3
    cases h5
    have h2 := of_decide_eq_true h2
    have hg : z[n.toNat]? = some b := by
      rw [← hz] at h4
      rw [Array.getElem?_toList] at h4
      exact h4
    refine goes_same (s := Instr.index t (a.eval y) (a.eval j)) (v' := .int .u8 (b.toNat : Int)) (by simp [execOp, ho]) ?_ hk rfl hR
    simp [Instr.index, hx, hi, run_underlying hu, Result.andThen, asIntOf, h2, hg]
  · cases hev

theorem add_addr (b o n : Nat) : Addr.add ⟨b, o, none⟩ n = ⟨b, o + n, none⟩ := Addr.add_lit b o n

theorem go_idxa (hR : R ρ H w) (he : EnvRel ρ e a) {es : Nat} {x i : Opd} (ok : opOK P fids (.idxa es x i) o.op = true) (hev : evOp calls (.idxa es x i) e H k = some r) : Goes k r ρ H w P o a := by
  simp only [evOp] at hev
  cases ho : o.op <;> rw [ho] at ok <;> simp only [opOK] at ok <;> try contradiction
  rename_i t y j
  simp only [Bool.and_eq_true] at ok
  obtain ⟨⟨o1, o2⟩, o3⟩ := ok
  obtain ⟨el, hu, hsz⟩ := slOK_spec o3
  split at hev
  · rename_i es' s e1
    have hs := vrel_sl (opd_rel he o1) e1
    obtain ⟨hes, hev2⟩ := cond_some_inv hev
    have hes := of_decide_eq_true hes
    subst hes
    obtain ⟨kd, n, e2, hev3⟩ := int?_some hev2
    have hi := vrel_int (opd_rel he o2) e2
    obtain ⟨m, h1, hk⟩ := Option.bind_some_inv hev3
    unfold Sl.at at h1
    obtain ⟨h2, h3⟩ := cond_some_inv h1
    obtain ⟨b, h4, h5⟩ := Option.bind_some_inv h3
    cases h5
    obtain ⟨p, l, c⟩ := s
    simp only at h4
    subst h4
    have hin : 0 ≤ n ∧ n < (l : Int) := of_decide_eq_true h2
    obtain ⟨pl, q, cp, g1, g2, g3⟩ := hs
    obtain ⟨f1, f2, f3, f4, f5⟩ := g3
    rcases f5 with ⟨f5, f6, f7, f8⟩ | ⟨f5, f6⟩
    · obtain ⟨qb, qo, qs⟩ := q
      simp only at f1 f2 f5
      subst f1 f2 f5
      refine goes_same (s := Instr.indexAt t (a.eval y) (a.eval j)) (v' := .pointer (some ⟨pl.k, pl.base + (b.2 + n.toNat * es'), none⟩)) (by simp [execOp, ho]) ?_ hk ⟨pl, g1, rfl⟩ hR
      simp only [Instr.indexAt, g2, hi, asIntOf, run_underlying hu, Sem.run_bind, Sem.run_pure, Result.andThen, if_pos hin, run_size hsz, add_addr, Nat.add_assoc]
    · omega
  · cases hev

theorem go_idxarr (hR : R ρ H w) (he : EnvRel ρ e a) {es n : Nat} {x i : Opd} (ok : opOK P fids (.idxarr es n x i) o.op = true) (hev : evOp calls (.idxarr es n x i) e H k = some r) : Goes k r ρ H w P o a := by
  simp only [evOp] at hev
  cases ho : o.op <;> rw [ho] at ok <;> simp only [opOK] at ok <;> try contradiction
  rename_i t y j
  simp only [Bool.and_eq_true] at ok
  obtain ⟨⟨o1, o2⟩, o3⟩ := ok
  split at o3
  · rename_i m el hu
    simp only [Bool.and_eq_true, decide_eq_true_eq] at o3
    obtain ⟨rfl, hsz⟩ := o3
    split at hev
    · rename_i p e1
      have hs := vrel_ptr (opd_rel he o1) e1
      obtain ⟨b, rfl, hev1⟩ := Option.bind_some_inv hev
      obtain ⟨kd, q, e2, hev3⟩ := int?_some hev1
      have hi := vrel_int (opd_rel he o2) e2
      obtain ⟨c, h1, hk⟩ := Option.bind_some_inv hev3
      unfold arrAt at h1
      obtain ⟨h2, h3⟩ := cond_some_inv h1
      have h2 := of_decide_eq_true h2
      cases h3
      obtain ⟨pl, g1, g2⟩ := hs
      refine goes_same (s := Instr.indexAt t (a.eval y) (a.eval j)) (v' := .pointer (some ⟨pl.k, pl.base + (b.2 + q.toNat * es), none⟩)) (by simp [execOp, ho]) ?_ hk ⟨pl, g1, rfl⟩ hR
      simp only [Instr.indexAt, g2, hi, asIntOf, run_underlying hu, Sem.run_bind, Sem.run_pure, Result.andThen, Instr.sureAddr, if_pos h2, run_size hsz, add_addr, Nat.add_assoc]
    · cases hev
  · cases o3

theorem optI_some {o : Option Opd} {d : Int} {f : Int → Option R0} (h : optI e o d f = some r) : (o = none ∧ f d = some r) ∨ ∃ x kd n, o = some x ∧ x.ev e = .w (.one (.int kd n)) ∧ f n = some r := by
  unfold optI at h
  split at h
  · exact .inl ⟨rfl, h⟩
  · rename_i x
    obtain ⟨kd, n, h1, h2⟩ := int?_some h
    exact .inr ⟨x, kd, n, rfl, h1, h2⟩

/-- A bound of a slice: what it is, on both sides. -/
theorem bound_of (he : EnvRel ρ e a) {lo : Option Opd} {lo' : Option Operand} (ok : oopdOK lo lo' = true) {d : Int} {f : Int → Option R0} (h : optI e lo d f = some r) :
    ∃ l, f l = some r ∧ ((lo' = none ∧ lo = none ∧ l = d) ∨ ∃ y kd, lo' = some y ∧ lo.isSome = true ∧ a.eval y = .int kd l) := by
  rcases optI_some h with ⟨h1, h2⟩ | ⟨x, kd, n, h1, h2, h3⟩
  · subst h1
    cases lo' with
    | none => exact ⟨d, h2, .inl ⟨rfl, rfl, rfl⟩⟩
    | some y => simp [oopdOK] at ok
  · subst h1
    cases lo' with
    | none => simp [oopdOK] at ok
    | some y => exact ⟨n, h3, .inr ⟨y, kd, rfl, rfl, vrel_int (opd_rel he ok) h2⟩⟩

theorem run_sliceBound {x : Value} {kd : IntKind} {i : Int} {y : Nat} {code : BoundsCode} (h : x = .int kd i) (h1 : 0 ≤ i) (h2 : i ≤ (y : Int)) : (Instr.sliceBound x y code).run P w = .ok i.toNat w := by
  subst h
  simp [Instr.sliceBound, asIntOf, h1, h2]

theorem run_bounds {isSlice : Bool} {len cap : Nat} {lo hi mx : Option Value} {l h m : Int} (h0 : 0 ≤ l) (h1 : l ≤ h) (h2 : h ≤ m) (h3 : m ≤ (cap : Int))
    (hl : (lo = none ∧ l = 0) ∨ ∃ kd, lo = some (.int kd l)) (hh : (hi = none ∧ h = (len : Int)) ∨ ∃ kd, hi = some (.int kd h))
    (hm : (mx = none ∧ m = (cap : Int)) ∨ ∃ kd, mx = some (.int kd m)) (hx : mx.isSome = true → hi.isSome = true) :
    (Instr.sliceBounds isSlice len cap lo hi mx).run P w = .ok (l.toNat, h.toNat, m.toNat) w := by
  have hs : ∀ (kd : IntKind) (i : Int) (y : Nat) (code : BoundsCode), 0 ≤ i → i ≤ (y : Int) → (Instr.sliceBound (.int kd i) y code).run P w = .ok i.toNat w := fun kd i y code q1 q2 => run_sliceBound rfl q1 q2
  unfold Instr.sliceBounds
  rcases hm with ⟨rfl, rfl⟩ | ⟨km, rfl⟩ <;> rcases hh with ⟨rfl, rfl⟩ | ⟨kh, rfl⟩ <;> rcases hl with ⟨rfl, rfl⟩ | ⟨kl, rfl⟩ <;>
    first
      | (simp at hx; done)
      | (simp (disch := omega) only [Sem.run_bind, Sem.run_pure, Result.andThen, hs, Int.toNat_natCast]; done)
      | (simp (disch := omega) only [Sem.run_bind, Sem.run_pure, Result.andThen, hs, Int.toNat_natCast]; rfl)

theorem map_of {lo : Option Operand} {l d : Int} (h : (lo = none ∧ l = d) ∨ ∃ y kd, lo = some y ∧ a.eval y = .int kd l) : (lo.map a.eval = none ∧ l = d) ∨ ∃ kd, lo.map a.eval = some (.int kd l) := by
  rcases h with ⟨rfl, rfl⟩ | ⟨y, kd, rfl, h⟩
  · exact .inl ⟨rfl, rfl⟩
  · exact .inr ⟨kd, by simp [h]⟩

theorem go_slstr (hR : R ρ H w) (he : EnvRel ρ e a) {x : Opd} {lo hi : Option Opd} (ok : opOK P fids (.slstr x lo hi) o.op = true) (hev : evOp calls (.slstr x lo hi) e H k = some r) : Goes k r ρ H w P o a := by
  simp only [evOp] at hev
  cases ho : o.op <;> rw [ho] at ok <;> simp only [opOK] at ok <;> try contradiction
  rename_i t y lo' hi' mx'
  simp only [Bool.and_eq_true] at ok
  obtain ⟨⟨⟨⟨o1, o2⟩, o3⟩, o4⟩, o5⟩ := ok
  have hu := isStr_spec o5
  have hmx : mx' = none := by simpa using o4
  subst hmx
  split at hev
  · rename_i s e1
    obtain ⟨z, hx, hz⟩ := vrel_str (opd_rel he o1) e1
    obtain ⟨h, hev1, b1⟩ := bound_of he o3 hev
    obtain ⟨l, hev2, b2⟩ := bound_of he o2 hev1
    obtain ⟨u, h1, hk⟩ := Option.bind_some_inv hev2
    unfold subS at h1
    obtain ⟨h2, h3⟩ := cond_some_inv h1
    obtain ⟨g1, g2, g3⟩ := of_decide_eq_true h2
    cases h3
    have hl : z.size = s.length := by rw [← hz, Array.length_toList]; rfl
    have c1 := map_of (a := a) (lo := hi') (l := h) (d := (s.length : Int)) (by rcases b1 with ⟨q1, _, q2⟩ | ⟨y, kd, q1, _, q2⟩; exact .inl ⟨q1, q2⟩; exact .inr ⟨y, kd, q1, q2⟩)
    have c2 := map_of (a := a) (lo := lo') (l := l) (d := 0) (by rcases b2 with ⟨q1, _, q2⟩ | ⟨y, kd, q1, _, q2⟩; exact .inl ⟨q1, q2⟩; exact .inr ⟨y, kd, q1, q2⟩)
    refine goes_same (s := Instr.sliceAt t (a.eval y) (lo'.map a.eval) (hi'.map a.eval) none) (v' := .string (z.extract l.toNat h.toNat)) (by simp [execOp, ho]) ?_ hk ⟨_, rfl, ?_⟩ hR
    · have hb := run_bounds (P := P) (w := w) (isSlice := false) (len := z.size) (cap := z.size) (mx := none) (m := (z.size : Int)) g1 g2 (by omega) (Int.le_refl _) c2 (by rw [hl]; exact c1) (.inl ⟨rfl, rfl⟩) (by simp)
      simp only [Instr.sliceAt, run_underlying hu, Sem.run_bind, Result.andThen, Instr.slice, hx, Option.isSome_none, Bool.false_eq_true, if_false, hb, Sem.run_pure]
    · rw [← ByteArray.toList_eq, Lib.extract_toList, hz, List.drop_take]
  · cases hev

theorem go_slc (hR : R ρ H w) (he : EnvRel ρ e a) {es : Nat} {x : Opd} {lo hi mx : Option Opd} (ok : opOK P fids (.slc es x lo hi mx) o.op = true) (hev : evOp calls (.slc es x lo hi mx) e H k = some r) : Goes k r ρ H w P o a := by
  simp only [evOp] at hev
  cases ho : o.op <;> rw [ho] at ok <;> simp only [opOK] at ok <;> try contradiction
  rename_i t y lo' hi' mx'
  simp only [Bool.and_eq_true] at ok
  obtain ⟨⟨⟨⟨⟨o1, o2⟩, o3⟩, o4⟩, o5⟩, o6⟩ := ok
  obtain ⟨el, hu, hsz⟩ := slOK_spec o5
  split at hev
  · rename_i es' s e1
    obtain ⟨hes, hev0⟩ := cond_some_inv hev
    have hes := of_decide_eq_true hes
    subst hes
    have hs := vrel_sl (opd_rel he o1) e1
    obtain ⟨m, hev1, b0⟩ := bound_of he o4 hev0
    obtain ⟨h, hev2, b1⟩ := bound_of he o3 hev1
    obtain ⟨l, hev3, b2⟩ := bound_of he o2 hev2
    obtain ⟨u, h1, hk⟩ := Option.bind_some_inv hev3
    unfold Sl.sub at h1
    obtain ⟨h2, h3⟩ := cond_some_inv h1
    obtain ⟨g1, g2, g3, g4⟩ := of_decide_eq_true h2
    cases h3
    obtain ⟨p, len, cap⟩ := s
    simp only at g1 g2 g3 g4 b0 b1 hk
    have c1 := map_of (a := a) (lo := hi') (l := h) (d := (len : Int)) (by rcases b1 with ⟨q1, _, q2⟩ | ⟨y, kd, q1, _, q2⟩; exact .inl ⟨q1, q2⟩; exact .inr ⟨y, kd, q1, q2⟩)
    have c2 := map_of (a := a) (lo := lo') (l := l) (d := 0) (by rcases b2 with ⟨q1, _, q2⟩ | ⟨y, kd, q1, _, q2⟩; exact .inl ⟨q1, q2⟩; exact .inr ⟨y, kd, q1, q2⟩)
    have hsome : (mx'.map a.eval).isSome = true → (hi'.map a.eval).isSome = true := by
      intro hq
      have h6 : hi.isSome = true := by
        rcases b0 with ⟨q1, _, _⟩ | ⟨y, kd, q1, q2, _⟩
        · subst q1; simp at hq
        · cases mx with
          | none => cases q2
          | some _ => simpa using o6
      rcases b1 with ⟨_, q2, _⟩ | ⟨y, kd, q1, _, _⟩
      · subst q2; cases h6
      · subst q1; rfl
    cases p with
    | none =>
      obtain ⟨r1, r2, r3⟩ := hs
      subst r1 r2
      obtain rfl : l = 0 := by omega
      obtain rfl : h = 0 := by omega
      obtain rfl : m = 0 := by omega
      have c0 : (mx'.map a.eval = none ∧ (0 : Int) = ((0 : Nat) : Int)) ∨ ∃ kd, mx'.map a.eval = some (.int kd 0) := by
        rcases b0 with ⟨q1, _, _⟩ | ⟨y, kd, q1, _, q2⟩
        · exact .inl ⟨by simp [q1], rfl⟩
        · exact .inr ⟨kd, by simp [q1, q2]⟩
      have hb := run_bounds (P := P) (w := w) (isSlice := true) (len := 0) (cap := 0) (by omega) (by omega) (by omega) (by omega) c2 c1 c0 hsome
      refine goes_same (s := Instr.sliceAt t (a.eval y) (lo'.map a.eval) (hi'.map a.eval) (mx'.map a.eval)) (v' := .slice none 0 0) (by simp [execOp, ho]) ?_ hk ⟨rfl, rfl, rfl⟩ hR
      simp only [Instr.sliceAt, run_underlying hu, Sem.run_bind, Result.andThen, Instr.slice, r3, hb, run_size hsz, Sem.run_pure]
      rfl
    | some b =>
      obtain ⟨pl, q, cp, q1, q2, f1, f2, f3, f4, f5⟩ := hs
      obtain ⟨qb, qo, qs⟩ := q
      simp only at f1 f2 f5
      subst f1 f2
      -- the real end
      obtain ⟨m', hm', hcm, hcc⟩ : ∃ m' : Int, ((mx'.map a.eval = none ∧ m' = (cp : Int)) ∨ ∃ kd, mx'.map a.eval = some (.int kd m')) ∧ (h ≤ m' ∧ m' ≤ (cp : Int) ∧ m ≤ m') ∧ (m = m' ∨ (m = (cap : Int) ∧ m' = (cp : Int))) := by
        have hcap : cap ≤ cp := by rcases f5 with ⟨_, f6, _⟩ | ⟨f6, f7⟩ <;> omega
        rcases b0 with ⟨r1, _, r2⟩ | ⟨y, kd, r1, _, r2⟩
        · exact ⟨cp, .inl ⟨by simp [r1], rfl⟩, ⟨by omega, by omega, by omega⟩, .inr ⟨r2, rfl⟩⟩
        · exact ⟨m, .inr ⟨kd, by simp [r1, r2]⟩, ⟨g3, by omega, by omega⟩, .inl rfl⟩
      have hb := run_bounds (P := P) (w := w) (isSlice := true) (len := len) (cap := cp) g1 g2 hcm.1 hcm.2.1 c2 c1 hm' hsome
      refine goes_same (s := Instr.sliceAt t (a.eval y) (lo'.map a.eval) (hi'.map a.eval) (mx'.map a.eval))
        (v' := .slice (if m'.toNat = l.toNat then some ⟨pl.k, qo, none⟩ else some ⟨pl.k, qo + l.toNat * es', none⟩) (h.toNat - l.toNat) (m'.toNat - l.toNat)) (by simp [execOp, ho]) ?_ hk ?_ hR
      · simp only [Instr.sliceAt, run_underlying hu, Sem.run_bind, Result.andThen, Instr.slice, q2, hb, run_size hsz, Sem.run_pure, Option.map_some, add_addr]
      · have hml : l.toNat ≤ m.toNat := by omega
        have hmm : m.toNat ≤ m'.toNat := by omega
        have hmc : m.toNat ≤ cap := by omega
        have e1 : l.toNat * es' + (m.toNat - l.toNat) * es' = m.toNat * es' := by rw [← Nat.add_mul]; congr 1; omega
        have e2 : l.toNat * es' + (m'.toNat - l.toNat) * es' = m'.toNat * es' := by rw [← Nat.add_mul]; congr 1; omega
        have e3 : m.toNat * es' ≤ cap * es' := Nat.mul_le_mul_right _ hmc
        have e4 : m'.toNat * es' ≤ cp * es' := Nat.mul_le_mul_right _ (by omega)
        show CRel ρ (.sl es' ⟨some (b.1, b.2 + l.toNat * es'), h.toNat - l.toNat, m.toNat - l.toNat⟩) _
        rcases f5 with ⟨f5, f6, f7, f8⟩ | ⟨f5, f6⟩
        · by_cases hz : m'.toNat = l.toNat
          · rw [if_pos hz]
            exact ⟨pl, _, _, q1, rfl, rfl, rfl, by omega, by omega, .inr ⟨by omega, by omega⟩⟩
          · rw [if_neg hz]
            refine ⟨pl, _, _, q1, rfl, rfl, rfl, by omega, by omega, .inl ⟨by simp only; omega, by omega, ?_, by omega⟩⟩
            rcases hcc with hcc | ⟨hc1, hc2⟩
            · exact .inl (by omega)
            · rcases f7 with f7 | ⟨f7, f9⟩
              · exact .inl (by omega)
              · have : m.toNat = cap := by omega
                exact .inr ⟨f7, by rw [Nat.add_assoc, e1, this]; exact f9⟩
        · have : m'.toNat = l.toNat := by omega
          rw [if_pos this]
          exact ⟨pl, _, _, q1, rfl, rfl, rfl, by omega, by omega, .inr ⟨by omega, by omega⟩⟩
  · cases hev

end
end Ev
