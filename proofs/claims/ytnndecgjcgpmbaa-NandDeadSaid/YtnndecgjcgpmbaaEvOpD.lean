/- Bytes and texts, new rows, rows that grow. -/
import Derived.Test.YtnndecgjcgpmbaaEvOpC
namespace Ev
open Go
section
variable {P : Program} {o : Oper} {a : Act} {w : World} {next : Act → World → Prop} {Q : Exit → Act → World → Prop}
variable {R0 : Type} {k : V → Heap → Option R0} {r : R0} {ρ : Rho} {H : Heap} {e : Env} {calls : Nat → Option Callee} {fids : Nat → Option FuncId}

theorem isInt_spec {t : TypeId} {kd : IntKind} (h : isInt P t kd = true) : P.underlying t = some (.int kd) := by
  unfold isInt at h; split at h <;> simp_all

/-- The cells of a slice. -/
theorem R.slice (hR : R ρ H w) {es : Nat} {s : Sl} {x : Value} {cs : List C} (hs : CRel ρ (.sl es s) x) (h : slRow H es s = some cs) :
    ∃ (q : Option Addr) (c : Nat) (vs : List Value), x = .slice q s.len c ∧ CsRel ρ cs vs ∧ vs.length = s.len * es ∧
      ((q = none ∧ vs = []) ∨ ∃ b, q = some b ∧ ∀ w' : World, w'.heap = w.heap → (loadCells b (s.len * es)).run P w' = .ok vs.toArray w') := by
  obtain ⟨p, l, c⟩ := s
  cases p with
  | none =>
    obtain ⟨h1, h2, h3⟩ := hs
    subst h1
    cases h
    exact ⟨none, 0, [], h3, trivial, by simp, .inl ⟨rfl, rfl⟩⟩
  | some b =>
    obtain ⟨pl, q, cp, g1, g2, f1, f2, f3, f4, f5⟩ := hs
    have h : H.row b.1 b.2 (l * es) = some cs := h
    obtain ⟨qb, qo, qs⟩ := q
    simp only at f1 f2 f5
    subst f1 f2
    rcases f5 with ⟨f5, _⟩ | ⟨f5, f6⟩
    · subst f5
      obtain ⟨vs, el, fr, q1, q2, q3⟩ := hR.row g1 h
      have q4 : ∀ w' : World, w'.heap = w.heap → (loadCells ⟨pl.k, pl.base + b.2, none⟩ (l * es)).run P w' = .ok ((vs.drop (pl.base + b.2)).take (l * es)).toArray w' :=
        fun w' hw => run_loadCells_row (P := P) (w := w') (by rw [hw]; exact q1) (pl.base + b.2) (l * es) q2
      have q5 := q3.length
      refine ⟨_, cp, _, g2, q3, ?_, .inr ⟨_, rfl, q4⟩⟩
      simp only [List.length_take, List.length_drop]
      omega
    · have hl : l = 0 := by omega
      subst hl
      have h0 : cs = [] := by
        obtain ⟨acs, bk, _, _, rfl⟩ := row_some h
        simp
      subst h0
      exact ⟨_, cp, [], g2, trivial, by simp, .inr ⟨_, rfl, fun w' _ => by simp [loadCells, loadCellsFrom]⟩⟩

theorem bytes_cells {ρ : Rho} : ∀ {cs : List C} {vs : List Value} {t : Bytes}, CsRel ρ cs vs → bytesOf cs = some t → ∃ ns : List Int, vs = ns.map (Value.int .u8) ∧ ns.map (fun n => UInt8.ofNat n.toNat) = t
  | [], [], t, _, h => by cases h; exact ⟨[], rfl, rfl⟩
  | c :: cs, v :: vs, t, ⟨h1, h2⟩, h => by
    unfold bytesOf at h
    split at h
    · rename_i q; cases q
    · rename_i n r heq
      cases heq
      obtain ⟨u, h3, h4⟩ := Option.bind_some_inv h
      cases h4
      obtain ⟨ns, h5, h6⟩ := bytes_cells h2 h3
      exact ⟨n :: ns, by rw [h5]; simp only [List.map_cons]; rw [← (h1 : v = .int .u8 n)], by simp [h6]⟩
    · cases h
  | [], _ :: _, _, h, _ => h.elim
  | _ :: _, [], _, h, _ => h.elim

theorem foldl_push_map : ∀ (ns : List Int) (r : ByteArray), (ns.foldl (fun r n => r.push (UInt8.ofNat n.toNat)) r).data.toList = r.data.toList ++ ns.map (fun n => UInt8.ofNat n.toNat)
  | [], r => by simp
  | n :: ns, r => by
    simp only [List.foldl_cons, List.map_cons]
    rw [foldl_push_map ns]
    simp [ByteArray.push]

theorem go_b2s (hR : R ρ H w) (he : EnvRel ρ e a) {x : Opd} (ok : opOK P fids (.b2s x) o.op = true) (hev : evOp calls (.b2s x) e H k = some r) : Goes k r ρ H w P o a := by
  simp only [evOp] at hev
  cases ho : o.op <;> rw [ho] at ok <;> simp only [opOK] at ok <;> try contradiction
  rename_i s d y
  simp only [Bool.and_eq_true] at ok
  obtain ⟨⟨o1, o2⟩, o3⟩ := ok
  split at o3
  · rename_i el hel
    have hu := elem_spec hel
    have hd := isStr_spec o2
    have h8 := isInt_spec o3
    split at hev
    · rename_i es sl e1
      obtain ⟨hes, hev2⟩ := cond_some_inv hev
      have hes := of_decide_eq_true hes
      subst hes
      obtain ⟨t, h1, hk⟩ := Option.bind_some_inv hev2
      obtain ⟨cs, h2, h3⟩ := Option.bind_some_inv h1
      obtain ⟨q, c, vs, g1, g2, g3, g4⟩ := R.slice (P := P) hR (vrel_sl (opd_rel he o1) e1) h2
      obtain ⟨ns, n1, n2⟩ := bytes_cells g2 h3
      rcases g4 with ⟨rfl, rfl⟩ | ⟨b, rfl, g4⟩
      · have : t = [] := by cases ns with | nil => simpa using n2.symm | cons _ _ => cases n1
        subst this
        refine goes_same (s := convert s d (a.eval y)) (v' := .string .empty) (by simp [execOp, ho]) ?_ hk ⟨_, rfl, rfl⟩ hR
        rw [g1, run_convert_bytes_string w s d el none _ _ hu h8 hd]
        rfl
      · refine goes_same (s := convert s d (a.eval y)) (v' := .string (ns.foldl (fun r n => r.push (UInt8.ofNat n.toNat)) ByteArray.empty)) (by simp [execOp, ho]) ?_ hk ⟨_, rfl, ?_⟩ hR
        · rw [g1, run_convert_bytes_string w s d el (some b) _ _ hu h8 hd]
          refine run_bytesToString w b _ _ ns ?_
          rw [Nat.mul_one] at g4
          rw [g4 w rfl, n1]
        · rw [foldl_push_map, n2]; rfl
    · cases hev
  · cases o3

def byteV (s : Bytes) : List Value := s.map fun b : UInt8 => Value.int .u8 (b.toNat : Int)
theorem byteV_length (s : Bytes) : (byteV s).length = s.length := by simp [byteV]
theorem cellsOf_rel {ρ : Rho} : ∀ (s : Bytes), CsRel ρ (cellsOf s) (byteV s)
  | [] => trivial
  | _ :: s => ⟨rfl, cellsOf_rel s⟩

theorem go_s2b (hR : R ρ H w) (he : EnvRel ρ e a) {x : Opd} (ok : opOK P fids (.s2b x) o.op = true) (hev : evOp calls (.s2b x) e H k = some r) : Goes k r ρ H w P o a := by
  simp only [evOp] at hev
  cases ho : o.op <;> rw [ho] at ok <;> simp only [opOK] at ok <;> try contradiction
  rename_i s d y
  simp only [Bool.and_eq_true] at ok
  obtain ⟨⟨o1, o2⟩, o3⟩ := ok
  split at o3
  · rename_i el hel
    have hu := elem_spec hel
    have hs := isStr_spec o2
    have h8 := isInt_spec o3
    split at hev
    · rename_i t e1
      obtain ⟨z, hx, hz⟩ := vrel_str (opd_rel he o1) e1
      have hl : z.size = t.length := by rw [← hz, Array.length_toList]; rfl
      have hrun := run_bytes_of_string (P := P) w s d el z hs hu h8
      have hcap : z.size ≤ grownCap w z.size 0 el := by unfold grownCap Question.cut; simp only; omega
      generalize hg : grownCap w z.size 0 el = cp at hrun hcap
      have hrow : bytesRow z cp = (byteV t ++ List.replicate (cp - z.size) (Value.int .u8 0)).toArray := by
        apply Array.ext'
        simp [bytesRow, ← hz, byteV]
      have hlen : (byteV t ++ List.replicate (cp - z.size) (Value.int .u8 0)).length = cp := by
        simp [byteV_length]; omega
      have hc : (cellsOf t).length = t.length := by simp [cellsOf]
      obtain ⟨g1, g2⟩ := hR.alloc (w' := w.drew.alloc (.cells (bytesRow z cp) el ((bytesRow z cp).size, (bytesRow z cp).size + 1))) (cellsOf t) .loose
        (byteV t ++ List.replicate (cp - z.size) (Value.int .u8 0)) el ((bytesRow z cp).size, (bytesRow z cp).size + 1)
        (by rw [← hrow]; rfl) rfl rfl rfl
        (by rw [hc, List.take_left' (byteV_length t)]; exact cellsOf_rel t) (by rw [hlen, hc]; omega) (by simp)
        (by intro j h1 _; rw [hrow] at h1; simpa using h1)
      intro next Q hn
      refine wp_sem (s := convert s d (a.eval y)) (by simp [execOp, ho]) (by rw [hx]; exact hrun) (hn _ _ _ _ _ hev ⟨_, _, _, Rho.set_same _ _ _, by rw [hl], ?_⟩ g1 g2)
      refine ⟨rfl, rfl, Nat.le_refl _, by simp [hc], .inl ⟨by simp, by omega, .inr ⟨by simp, by simp [hc]⟩, by simp only; rw [hlen]; omega⟩⟩
    · cases hev
  · cases o3

theorem rep_length (z : List C) : ∀ n, (rep n z).length = n * z.length
  | 0 => by simp [rep]
  | n + 1 => by
    have := rep_length z n
    simp only [rep, List.replicate_succ, List.flatten_cons, List.length_append] at this ⊢
    rw [this, Nat.add_mul]; omega

theorem rep_rel {ρ : Rho} {z : List C} {zs : List Value} (h : CsRel ρ z zs) : ∀ n, CsRel ρ (rep n z) (List.replicate n zs).flatten
  | 0 => by simp [rep, CsRel]
  | n + 1 => by
    have := rep_rel h n
    simp only [rep, List.replicate_succ, List.flatten_cons] at this ⊢
    exact h.append this

theorem flat_get (zs : List Value) : ∀ (n j : Nat), j < n * zs.length → (List.replicate n zs).flatten[j]? = zs[j % zs.length]?
  | 0, j, h => by simp at h
  | n + 1, j, h => by
    simp only [List.replicate_succ, List.flatten_cons]
    by_cases hj : j < zs.length
    · rw [List.getElem?_append_left hj, Nat.mod_eq_of_lt hj]
    · rw [Nat.succ_mul] at h
      rw [List.getElem?_append_right (by omega), flat_get zs n (j - zs.length) (by omega)]
      rw [← Nat.mod_eq_sub_mod (by omega)]

theorem range_zero (zs : Array Value) (n : Nat) (h : 0 < zs.size) : ((Array.range (n * zs.size)).map (zs[· % zs.size]!)).toList = (List.replicate n zs.toList).flatten := by
  apply List.ext_getElem?
  intro j
  by_cases hj : j < n * zs.size
  · rw [flat_get _ _ _ (by simpa using hj)]
    have hm : j % zs.size < zs.size := Nat.mod_lt _ h
    simp [hj, hm]
  · rw [List.getElem?_eq_none, List.getElem?_eq_none]
    · simp only [List.length_flatten, List.map_replicate, List.sum_replicate_nat, Array.length_toList]; omega
    · simp; omega

theorem go_mk (hR : R ρ H w) (he : EnvRel ρ e a) {es bytes : Nat} {z : List C} {l c : Opd} (ok : opOK P fids (.mk es bytes z l c) o.op = true) (hev : evOp calls (.mk es bytes z l c) e H k = some r) : Goes k r ρ H w P o a := by
  simp only [evOp] at hev
  cases ho : o.op <;> rw [ho] at ok <;> simp only [opOK] at ok <;> try contradiction
  rename_i t y y'
  simp only [Bool.and_eq_true, decide_eq_true_eq] at ok
  obtain ⟨⟨⟨⟨o1, o2⟩, o3⟩, o4⟩, o5⟩ := ok
  split at o5
  · rename_i el hel
    simp only [Bool.and_eq_true] at o5
    obtain ⟨⟨q1, q2⟩, q3⟩ := o5
    have hu := elem_spec hel
    obtain ⟨k1, l, e1, hev1⟩ := int?_some hev
    obtain ⟨k2, c, e2, hev2⟩ := int?_some hev1
    have b1 := vrel_int (opd_rel he o1) e1
    have b2 := vrel_int (opd_rel he o2) e2
    obtain ⟨p, h1, hk⟩ := Option.bind_some_inv hev2
    unfold mkS at h1
    obtain ⟨h2, h3⟩ := cond_some_inv h1
    obtain ⟨g1, g2, g3, g4⟩ := of_decide_eq_true h2
    cases h3
    -- the type's row
    unfold sizeIs at q1
    unfold bytesIs at q2
    unfold zeroIs at q3
    cases hi : P.info? el with
    | none => simp [hi] at q1
    | some i =>
      simp only [hi, decide_eq_true_eq, Bool.and_eq_true] at q1 q2 q3
      cases hz : i.zero with
      | none => simp [hz] at q3
      | some zz =>
        simp only [hz] at q3
        have hzr := csOK_rel q3 ρ
        have hzl := hzr.length
        have hzs : zz.cells.size = es := by rw [← o4, hzl]; simp
        have hb : (i.bytes : Int) * c ≤ 281474976710656 := by
          unfold maxRow at g3
          have : ((c.toNat * bytes : Nat) : Int) ≤ 2 ^ 45 := by exact_mod_cast g3
          rw [q2.1]
          have hc : (c.toNat : Int) = c := by omega
          rw [Int.natCast_mul, hc, Int.mul_comm] at this
          omega
        have hrun := run_make (P := P) w t el i zz hu hi hz k1 k2 l c g1 g2 hb (by unfold maxRow at g4; omega)
        have hmade : madeCells zz.cells (c.toNat * i.size) = ((List.replicate c.toNat zz.cells.toList).flatten).toArray := by
          apply Array.ext'
          rw [q1, ← hzs]
          simp only [madeCells]
          rw [range_zero _ _ (by omega)]
        have hfl : ((List.replicate c.toNat zz.cells.toList).flatten).length = c.toNat * es := by
          simp only [List.length_flatten, List.map_replicate, List.sum_replicate_nat, Array.length_toList, hzs]
        have hrl : (rep c.toNat z).length = c.toNat * es := by rw [rep_length, o4]
        obtain ⟨r1, r2⟩ := hR.alloc (w' := w.alloc (.cells (madeCells zz.cells (c.toNat * i.size)) el)) (rep c.toNat z) .exact ((List.replicate c.toNat zz.cells.toList).flatten) el (0, 0)
          (by rw [← hmade]; rfl) rfl rfl rfl (by rw [hrl, ← hfl, List.take_length]; exact rep_rel hzr _) (by rw [hrl, hfl]; exact Nat.le_refl _) (fun _ => by rw [hrl, hfl]) (by intro j _ h; exact absurd h (Nat.not_lt_zero _))
        intro next Q hn
        refine wp_sem (s := Instr.makeSlice t (a.eval y) (a.eval y')) (by simp [execOp, ho]) (by rw [b1, b2]; exact hrun) (hn _ _ _ _ _ hk ⟨_, _, _, Rho.set_same _ _ _, rfl, ?_⟩ r1 r2)
        refine ⟨rfl, rfl, by omega, by simp [hrl], .inl ⟨by simp, Nat.le_refl _, .inl rfl, by simp [hfl]⟩⟩
  · cases o5

end
end Ev
