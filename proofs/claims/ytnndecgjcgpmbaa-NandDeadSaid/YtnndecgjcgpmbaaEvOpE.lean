/- append, copy, clear; least and greatest. -/
import Derived.Test.YtnndecgjcgpmbaaEvGrow
namespace Ev
open Go
section
variable {P : Program} {o : Oper} {a : Act} {w : World} {next : Act → World → Prop} {Q : Exit → Act → World → Prop}
variable {R0 : Type} {k : V → Heap → Option R0} {r : R0} {ρ : Rho} {H : Heap} {e : Env} {calls : Nat → Option Callee} {fids : Nat → Option FuncId}

theorem nextcap_le (need old : Nat) (h : old < need) : Builtin.nextslicecap need old ≤ 2 * need + 512 := by
  have hg : ∀ (n c : Nat), c ≤ 2 * need + 512 → Builtin.growBy need n c ≤ 2 * need + 512 := by
    intro n
    induction n with
    | zero => intro c hc; exact hc
    | succ n ih =>
      intro c hc
      unfold Builtin.growBy
      split
      · exact hc
      · exact ih _ (by omega)
  unfold Builtin.nextslicecap
  split
  · omega
  · split
    · omega
    · exact hg _ _ (by omega)

structure AppTypes (P : Program) (t u el : TypeId) (es bytes : Nat) (i : TypeInfo) (z : Value) : Prop where
  ht : P.underlying t = some (.slice el)
  hu : P.underlying u = some .string ∨ ∃ d, P.underlying u = some (.slice d)
  hi : P.info? el = some i
  size : i.size = es
  byt : i.bytes = bytes
  hz : i.zero = some z
  zs : z.cells.size = es
  one : ∀ v ∈ z.cells.toList, v.oneC = true
  small : bytes ≤ 2 ^ 32

theorem run_app_fits {t u el ty : TypeId} {es bytes : Nat} {i : TypeInfo} {z : Value} (T : AppTypes P t u el es bytes i z) {base : Option Addr} {sLen sCap n : Nat} {x : Value} {news : List Value} {w' : World}
    (hn : (Builtin.lenOf x).run P w = .ok n w) (hf : (Builtin.firstCells es n x).run P w = .ok news.toArray w) (hfit : sLen + n ≤ sCap)
    (hst : ∀ b, base = some b → (storeCells (b.add (sLen * es)) news).run P w = .ok () w') (hno : base = none → w' = w) :
    (Builtin.append_ #[t, u] ty #[.slice base sLen sCap, x]).run P w = .ok (.slice base (sLen + n) sCap) w' := by
  have hsz : (Go.sizeOf el).run P w = .ok es w := run_size (by simp [sizeIs, T.hi, T.size])
  rcases T.hu with hd | ⟨d, hd⟩ <;> cases base with
  | none =>
    obtain rfl := hno rfl
    unfold Builtin.append_
    simp only [List.getElem?_toArray, List.getElem?_cons_zero, List.getElem?_cons_succ, Sem.run_bind, run_underlying T.ht, Result.andThen, hsz, run_underlying hd, Sem.run_pure, Bool.false_eq_true, if_false, hn, if_pos hfit, hf, Bool.not_false, if_true]
  | some b =>
    unfold Builtin.append_
    simp only [List.getElem?_toArray, List.getElem?_cons_zero, List.getElem?_cons_succ, Sem.run_bind, run_underlying T.ht, Result.andThen, hsz, run_underlying hd, Sem.run_pure, Bool.false_eq_true, if_false, hn, if_pos hfit, hf, Bool.not_false, if_true, hst b rfl]

theorem run_app_grow {t u el ty : TypeId} {es bytes : Nat} {i : TypeInfo} {z : Value} (T : AppTypes P t u el es bytes i z) {base : Option Addr} {sLen sCap n : Nat} {x : Value} {olds news : List Value}
    (hn : (Builtin.lenOf x).run P w = .ok n w) (hf : (Builtin.firstCells es n x).run P w.drew = .ok news.toArray w.drew) (ho : (Builtin.firstCells es sLen (.slice base sLen sCap)).run P w.drew = .ok olds.toArray w.drew)
    (hgrow : sCap < sLen + n) (hb : (sLen + n) * bytes ≤ maxRow) (hm : sLen + n ≤ maxRow) :
    ∃ (cp : Nat) (rest : List Value), sLen + n ≤ cp ∧ rest.length = (cp - (sLen + n)) * es ∧ (∀ v ∈ rest, v.oneC = true) ∧
      (Builtin.append_ #[t, u] ty #[.slice base sLen sCap, x]).run P w = .ok (.slice (some ⟨w.heap.size, 0, none⟩) (sLen + n) cp) (w.drew.alloc (.cells (olds ++ news ++ rest).toArray el)) := by
  have hsz : ∀ w : World, (Go.sizeOf el).run P w = .ok es w := fun w => run_size (by simp [sizeIs, T.hi, T.size])
  have hinf : ∀ w : World, (typeInfo el).run P w = .ok i w := fun w => run_info T.hi
  have hzr : ∀ w : World, (zeroValue el).run P w = .ok z w := fun w => by simp [zeroValue, hinf, T.hz, Result.andThen]
  have n1 : ¬ (sLen + n ≤ sCap) := by omega
  have hnc := nextcap_le (sLen + n) sCap hgrow
  have n2 : ¬ (Builtin.nextslicecap (sLen + n) sCap * i.bytes > 2 ^ 48) := by
    rw [T.byt]
    have h1 : Builtin.nextslicecap (sLen + n) sCap * bytes ≤ (2 * (sLen + n) + 512) * bytes := Nat.mul_le_mul_right _ hnc
    have h2 : (2 * (sLen + n) + 512) * bytes = 2 * ((sLen + n) * bytes) + 512 * bytes := by rw [Nat.add_mul, Nat.mul_assoc]
    have h3 := T.small
    unfold maxRow at hb
    omega
  have n3 : ¬ (((sLen + n : Nat) : Int) > IntKind.i64.max ∧ (false = true ∨ i.bytes = 0)) := by
    intro h
    have := h.1
    unfold maxRow at hm
    simp at this
    omega
  let cp := (Question.appendCap (sLen + n) sCap el).cut (w.tape w.drawn (.appendCap (sLen + n) sCap el))
  have hcp : sLen + n ≤ cp := by simp only [cp, Question.cut]; omega
  refine ⟨cp, (Builtin.zeroCells z.cells (cp - (sLen + n))).toList, hcp, by simp [Builtin.zeroCells, T.zs], ?_, ?_⟩
  · intro v hv
    simp only [Builtin.zeroCells, Array.toList_map, List.mem_map, Array.mem_toList_iff, Array.mem_range] at hv
    obtain ⟨j, hj, rfl⟩ := hv
    by_cases h0 : z.cells.size = 0
    · rw [h0] at hj; omega
    · have hlt : j % z.cells.size < z.cells.size := Nat.mod_lt _ (by omega)
      rw [getElem!_pos z.cells _ hlt]
      exact T.one _ (by simp)
  · have hch : (choose (.appendCap (sLen + n) sCap el)).run P w = .ok cp w.drew := by simp [Question.forced, cp]
    have hask : ∀ (m : Nat) (w : World), (askRoom m).run P w = .ok () w := by
      intro m w; unfold askRoom; split <;> simp [mark, Sem.run]
    have n3' : ¬ (((sLen + n : Nat) : Int) > IntKind.i64.max ∧ (False ∨ i.bytes = 0)) := by simpa using n3
    have harr : olds.toArray ++ news.toArray ++ Builtin.zeroCells z.cells (cp - (sLen + n)) = (olds ++ news ++ (Builtin.zeroCells z.cells (cp - (sLen + n))).toList).toArray := by
      apply Array.ext'
      simp
    rcases T.hu with hd | ⟨d, hd⟩ <;>
    · unfold Builtin.append_
      simp only [List.getElem?_toArray, List.getElem?_cons_zero, List.getElem?_cons_succ, Sem.run_bind, run_underlying T.ht, Result.andThen, hsz, run_underlying hd, Sem.run_pure, Bool.false_eq_true, if_false, hn, if_neg n1, hinf, n3', n2, hch, hask, ho, hf, hzr, Bool.not_false, if_true, newRow, run_newObj_alloc, harr]
      rfl

theorem chk_app {es bytes : Nat} {s x : Opd} {c : Call} (ok : opOK P fids (.app es bytes s x) (.call c) = true) :
    ∃ y z t u el i zz, c.callee = .builtin .append ∧ c.args = #[y, z] ∧ c.argTypes = #[t, u] ∧ opdOK s y = true ∧ opdOK x z = true ∧ 0 < es ∧ AppTypes P t u el es bytes i zz := by
  obtain ⟨callee, args, ats⟩ := c
  simp only [opOK] at ok
  split at ok
  · rename_i y z t u h2 h3
    simp only [Bool.and_eq_true, decide_eq_true_eq] at ok
    obtain ⟨⟨⟨⟨o1, o2⟩, o3⟩, o4⟩, o5⟩ := ok
    split at o5
    · rename_i el hel
      simp only [Bool.and_eq_true] at o5
      obtain ⟨⟨q1, q2⟩, q3⟩ := o5
      split at q3
      · rename_i i hi
        split at q3
        · rename_i zz hz
          simp only [Bool.and_eq_true, decide_eq_true_eq] at q3
          simp only [sizeIs, hi, decide_eq_true_eq] at q1
          simp only [bytesIs, hi, decide_eq_true_eq, Bool.and_eq_true] at q2
          refine ⟨y, z, t, u, el, i, zz, rfl, by rw [← h2], by rw [← h3], o1, o2, o3, ⟨elem_spec hel, ?_, hi, q1, q2.1, hz, q3.1, ?_, q2.2⟩⟩
          · rcases Bool.or_eq_true_iff.1 o4 with h | h
            · exact .inl (isStr_spec h)
            · obtain ⟨el2, h4⟩ := Option.isSome_iff_exists.1 h
              exact .inr ⟨_, elem_spec h4⟩
          · intro v hv
            have := Array.all_eq_true_iff_forall_mem.1 q3.2 v (by simpa using hv)
            exact this
        · cases q3
      · cases q3
    · cases o5
  · cases ok

theorem firstCells_of (hR : R ρ H w) {es : Nat} {s : Sl} {x : Value} {cs : List C} (hs : CRel ρ (.sl es s) x) (h : slRow H es s = some cs) :
    ∃ vs : List Value, CsRel ρ cs vs ∧ vs.length = s.len * es ∧ (Builtin.lenOf x).run P w = .ok s.len w ∧ ∀ w' : World, w'.heap = w.heap → (Builtin.firstCells es s.len x).run P w' = .ok vs.toArray w' := by
  obtain ⟨q, c, vs, h1, h2, h3, h4⟩ := R.slice (P := P) hR hs h
  subst h1
  refine ⟨vs, h2, h3, by simp [Builtin.lenOf], fun w' hw => ?_⟩
  rcases h4 with ⟨rfl, rfl⟩ | ⟨b, rfl, h4⟩
  · simp [Builtin.firstCells]
  · simpa [Builtin.firstCells] using h4 w' hw

/-- A slice that grows: both sides. -/
theorem app_goes (hR : R ρ H w) {es bytes : Nat} {s p : Sl} {H' : Heap} {n : Nat} {new : List C} {news : List Value} {t u el ty : TypeId} {i : TypeInfo} {z x sv : Value}
    (T : AppTypes P t u el es bytes i z) (hs : CRel ρ (.sl es s) sv) (hnew : CsRel ρ new news) (hnl : news.length = n * es)
    (hn : (Builtin.lenOf x).run P w = .ok n w) (hf : ∀ w', w'.heap = w.heap → (Builtin.firstCells es n x).run P w' = .ok news.toArray w')
    (h : appS H es bytes s n new = some (p, H')) :
    ∃ v w' ρ', (Builtin.append_ #[t, u] ty #[sv, x]).run P w = .ok v w' ∧ CRel ρ' (.sl es p) v ∧ R ρ' H' w' ∧ Ext ρ H w ρ' H' w' := by
  unfold appS at h
  by_cases hfit : s.len + n ≤ s.cap
  · simp only [hfit, decide_true, cond_true] at h
    obtain ⟨sp, len, cap⟩ := s
    simp only at h hfit
    cases sp with
    | none =>
      cases h
      obtain ⟨r1, r2, r3⟩ := hs
      subst r1 r2
      obtain rfl : n = 0 := by omega
      subst r3
      exact ⟨_, w, ρ, run_app_fits T hn (hf w rfl) (by omega) (fun b hb => by cases hb) (fun _ => rfl), ⟨rfl, rfl, rfl⟩, hR, Ext.refl _ _ _⟩
    | some b =>
      obtain ⟨pl, q, cp, g1, g2, f1, f2, f3, f4, f5⟩ := hs
      obtain ⟨qb, qo, qs⟩ := q
      simp only at f1 f2 f5 h
      subst f1 f2 g2
      have hcap : cap ≤ cp := by rcases f5 with ⟨_, f6, _⟩ | ⟨f6, f7⟩ <;> omega
      by_cases h0 : n = 0
      · subst h0
        simp only [decide_true, cond_true] at h
        cases h
        have hnil : news = [] := by cases news with | nil => rfl | cons _ _ => simp at hnl
        subst hnil
        refine ⟨_, w, ρ, run_app_fits T hn (hf w rfl) (by omega) (fun b hb => by simp [storeCells]) (fun _ => rfl), ?_, hR, Ext.refl _ _ _⟩
        exact ⟨pl, _, cp, g1, rfl, rfl, rfl, f3, f4, f5⟩
      · simp only [h0, decide_false, cond_false] at h
        obtain ⟨H1, h1, h2⟩ := Option.bind_some_inv h
        cases h2
        rcases f5 with ⟨f5, f6, f7, f8⟩ | ⟨f5, f6⟩
        · subst f5
          obtain ⟨vs, el', fr, s1, s2, s3, s4, s5⟩ := hR.store g1 h1 hnew
          have hrun := run_storeCells_row (P := P) news (pl.base + b.2 + len * es) 0 vs w s1 (by omega) s3 hnew.oneC
          refine ⟨_, _, ρ, run_app_fits T hn (hf w rfl) (by omega) (fun b' hb => ?_) (fun hb => by cases hb), ?_, s4, s5⟩
          · cases hb
            rw [add_addr, hrun]
            rw [Nat.add_zero, Nat.add_assoc]
          · exact ⟨pl, _, cp, g1, rfl, rfl, rfl, hfit, f4, .inl ⟨rfl, f6, f7, f8⟩⟩
        · omega
  · simp only [hfit, decide_false, cond_false] at h
    obtain ⟨hb, h⟩ := cond_some_inv h
    obtain ⟨hb1, hb2⟩ := of_decide_eq_true hb
    obtain ⟨old, h1, h⟩ := Option.bind_some_inv h
    obtain ⟨H1, h2, h⟩ := Option.bind_some_inv h
    cases h
    obtain ⟨olds', k1', k2', _, k4'⟩ := firstCells_of (P := P) hR hs h1
    have k1 := k1'
    obtain ⟨q, scap, hsv, hqn⟩ := sl_shape hs
    subst hsv
    have hnwl := hnew.length
    -- the abstract heap with the new block
    have new_block : ∀ (cp : Nat) (rest : List Value), s.len + n ≤ cp → rest.length = (cp - (s.len + n)) * es → (∀ v ∈ rest, v.oneC = true) →
        (Builtin.append_ #[t, u] ty #[.slice q s.len scap, x]).run P w = .ok (.slice (some ⟨w.heap.size, 0, none⟩) (s.len + n) cp) (w.drew.alloc (.cells (olds' ++ news ++ rest).toArray el)) →
        ∃ v w' ρ', (Builtin.append_ #[t, u] ty #[.slice q s.len scap, x]).run P w = .ok v w' ∧ CRel ρ' (.sl es ⟨some (H.length, 0), s.len + n, s.len + n⟩) v ∧ R ρ' (H1 ++ [.cells (old ++ new) .loose]) w' ∧ Ext ρ H w ρ' (H1 ++ [.cells (old ++ new) .loose]) w' := by
      intro cp rest c1 c2 c3 hrun
      have hk : HeapKill H H1 := growKill_spec h2
      have hR1 : R ρ H1 w := hR.kill hk
      have hol' := k1'.length
      obtain ⟨g1, g2⟩ := hR1.alloc (w' := w.drew.alloc (.cells (olds' ++ news ++ rest).toArray el)) (old ++ new) .loose (olds' ++ news ++ rest) el (0, 0) rfl rfl rfl rfl
        (by rw [List.take_left' (by simp; omega)]; exact k1'.append hnew) (by simp; omega) (by simp) (by intro j _ h; exact absurd h (Nat.not_lt_zero _))
      have hlen : H1.length = H.length := hk.length
      refine ⟨_, _, _, hrun, ?_, g1, Ext.kill hk g2⟩
      rw [hlen] at *
      refine ⟨_, _, cp, Rho.set_same _ _ _, rfl, rfl, rfl, Nat.le_refl _, ?_, .inl ⟨by simp, c1, .inr ⟨by simp, ?_⟩, ?_⟩⟩
      · simp only [List.length_append, Nat.zero_add]; rw [hol', hnwl, k2', hnl, Nat.add_mul]; exact Nat.le_refl _
      · simp only [List.length_append, Nat.zero_add]; rw [hol', hnwl, k2', hnl, Nat.add_mul]
      · simp only [List.length_append, Nat.zero_add]
        rw [k2', hnl, c2, ← Nat.add_mul, ← Nat.add_mul]
        exact Nat.mul_le_mul_right _ (by omega)
    by_cases hsc : scap < s.len + n
    · obtain ⟨cp, rest, c1, c2, c3, hrun⟩ := run_app_grow (ty := ty) T (base := q) (sLen := s.len) (sCap := scap) (x := x) (olds := olds') (news := news) hn (hf _ rfl) (k4' _ rfl) hsc hb1 hb2
      exact new_block cp rest c1 c2 c3 hrun
    · -- it has room in truth: the block is a loose one, and goes on under a new number
      obtain ⟨sp, len, cap⟩ := s
      simp only at hfit hsc hqn k1 h1 hb1 hb2 ⊢
      cases sp with
      | none => obtain ⟨_, _, h3⟩ := hs; cases h3; omega
      | some b =>
        obtain ⟨pl, qa, cp, g1, g2, f1, f2, f3, f4, f5⟩ := hs
        cases g2
        obtain ⟨qb, qo, qs⟩ := qa
        simp only at f1 f2 f5
        subst f1 f2
        rcases f5 with ⟨f5, f6, f7, f8⟩ | ⟨f5, f6⟩
        · subst f5
          rcases f7 with f7 | ⟨f7, f9⟩
          · omega
          · have h1' : Heap.row H b.1 b.2 (len * es) = some old := h1
            obtain ⟨acs, bk, hb, hm, hold⟩ := row_some h1'
            have hpn : acs.length = pl.n := (hR.blk _ _ _ _ g1 hb).len
            have hbl : bk = .loose ∧ H1 = List.set H b.1 Blk.dead := by
              unfold growKill at h2
              simp only [hb] at h2
              cases bk with
              | ro => simp [hpn, f9] at h2
              | exact => have := (hR.blk _ _ _ _ g1 hb).exact rfl; rw [this.2.2] at f7; cases f7
              | loose => simp [hpn, f9] at h2; exact ⟨rfl, h2.symm⟩
            obtain ⟨rfl, rfl⟩ := hbl
            have hcp : (len + n) * es ≤ scap * es := Nat.mul_le_mul_right _ (by omega)
            have hsum : (len + n) * es = len * es + n * es := Nat.add_mul _ _ _
            obtain ⟨vs, el', fr, s1, s2, s3, s4, s5⟩ := hR.regrow' g1 hb h1' hnew (by rw [hnl]; omega)
            have hrun := run_storeCells_row (P := P) news (pl.base + b.2 + len * es) 0 vs w s1 (by rw [s2, hnl]; omega) s3 hnew.oneC
            have hlo : (old ++ new).length = (len + n) * es := by
              have := k1.length
              simp only [List.length_append]
              rw [hnwl, hnl, hold]
              simp only [List.length_take, List.length_drop]
              omega
            refine ⟨_, _, _, run_app_fits T hn (hf w rfl) (by omega) (fun b' hb' => ?_) (fun hb' => by cases hb'), ?_, s4, s5⟩
            · cases hb'
              rw [add_addr, hrun, Nat.add_zero]
            · refine ⟨_, _, scap, Rho.set_same _ _ _, rfl, rfl, rfl, Nat.le_refl _, ?_, .inl ⟨rfl, by omega, .inr ⟨rfl, ?_⟩, ?_⟩⟩
              · simp only [hlo, Nat.zero_add]; exact Nat.le_refl _
              · simp only [hlo, Nat.zero_add]
              · simp only [Nat.add_zero]; omega
        · omega

theorem go_app (hR : R ρ H w) (he : EnvRel ρ e a) {es bytes : Nat} {s x : Opd} (ok : opOK P fids (.app es bytes s x) o.op = true) (hev : evOp calls (.app es bytes s x) e H k = some r) : Goes k r ρ H w P o a := by
  simp only [evOp] at hev
  cases ho : o.op <;> rw [ho] at ok <;> try (simp only [opOK] at ok; contradiction)
  rename_i c
  obtain ⟨y, z, t, u, el, i, zz, c1, c2, c3, o1, o2, hes, T⟩ := chk_app ok
  obtain ⟨callee, args, ats⟩ := c
  simp only at c1 c2 c3
  subst c1 c2 c3
  have main : ∀ (sl p : Sl) (n : Nat) (new : List C) (news : List Value) (H' : Heap), s.ev e = .w (.one (.sl es sl)) → CsRel ρ new news → news.length = n * es →
      (Builtin.lenOf (a.eval z)).run P w = .ok n w → (∀ w', w'.heap = w.heap → (Builtin.firstCells es n (a.eval z)).run P w' = .ok news.toArray w') →
      appS H es bytes sl n new = some (p, H') → k (.w (.one (.sl es p))) H' = some r → Goes k r ρ H w P o a := by
    intro sl p n new news H' e1 h1 h2 h3 h4 h5 hk next Q hn
    obtain ⟨v, w', ρ', g1, g2, g3, g4⟩ := app_goes (ty := o.type) hR T (vrel_sl (opd_rel he o1) e1) h1 h2 h3 h4 h5
    refine wp_value (v := v) (w' := w') ?_ (hn _ _ _ _ _ hk g2 g3 g4)
    simp only [execOp, ho, resolve, invoke, builtin, Sem.run_bind, Sem.run_pure, Result.andThen, List.map_toArray, List.map_cons, List.map_nil, g1]
  split at hev
  · rename_i es' sl es'' xl e1 e2
    obtain ⟨hb, hev1⟩ := cond_some_inv hev
    simp only [Bool.and_eq_true, decide_eq_true_eq] at hb
    obtain ⟨rfl, rfl⟩ := hb
    obtain ⟨new, h1, hev2⟩ := Option.bind_some_inv hev1
    obtain ⟨p, h2, hk⟩ := Option.bind_some_inv hev2
    have hz := vrel_sl (opd_rel he o2) e2
    obtain ⟨vs, g1, g2, g3, g4⟩ := firstCells_of (P := P) hR hz h1
    exact main sl p.1 xl.len new vs p.2 e1 g1 g2 g3 g4 h2 hk
  · rename_i es' sl t2 e1 e2
    obtain ⟨hb, hev1⟩ := cond_some_inv hev
    simp only [Bool.and_eq_true, decide_eq_true_eq] at hb
    obtain ⟨rfl, rfl⟩ := hb
    obtain ⟨p, h2, hk⟩ := Option.bind_some_inv hev1
    obtain ⟨zs, hx, hz⟩ := vrel_str (opd_rel he o2) e2
    have hl : zs.size = t2.length := by rw [← hz, Array.length_toList]; rfl
    refine main sl p.1 t2.length (cellsOf t2) (byteV t2) p.2 e1 (cellsOf_rel t2) (by simp [byteV_length]) (by rw [hx]; simp [Builtin.lenOf, hl]) (fun w' _ => ?_) h2 hk
    rw [hx]
    simp only [Builtin.firstCells, Sem.run_pure]
    congr 1
    apply Array.ext'
    rw [← hl]
    simp [byteV, ← hz]
  · cases hev

end
end Ev
