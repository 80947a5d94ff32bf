/- Chapter 13: WriteBad. -/
import Derived.Test.YtloijdlakkmjgaaSLaw13F
import Derived.Test.YtloijdlakkmjgaaSNandDead
namespace Ev
open Go (IntKind)

theorem hit_bad {a : NdA} {e : LfA} {s : Nd} {v v1 : Wr} {b b' : Nat} (h : Hit a e s v v1 b') (h3 : v.lf.l b = 3) : b' ≠ b ∧ v1.lf.l b = 3 ∧ (v1.lf.took e b').l b = 3 := by
  have h1 : v1.lf.l b = 3 := by
    rcases h.op with ⟨_, _, rfl⟩ | ⟨_, _, c, hc, hc0, _, rfl⟩ | ⟨_, hh, _⟩
    · exact h3
    · show upd v.lf.l c 1 b = 3
      unfold upd
      split
      · rename_i hbc; subst hbc; omega
      · exact h3
    · cases hh
  have hne : b' ≠ b := fun hh => by
    have := h.hl
    rw [hh] at this
    omega
  refine ⟨hne, h1, ?_⟩
  rw [took_l]
  unfold upd
  rw [if_neg (Ne.symm hne)]
  split <;> exact h1
theorem WInv.nobad {a : NdA} {s : Nd} {v : Wr} (i : WInv a s v) : WInv a s { v with bad := [] } := ⟨i.cuts, i.off, i.kind, i.op, i.free, i.dead, i.one⟩
/-- The state while no block has failed yet, and behind that. -/
def BadI (a : NdA) (s : Nd) (v : Wr) (n k : Nat) (bad : Int) : Prop :=
  (bad = -1 ∧ s.did = (k : Int) ∧ k < n) ∨ ∃ b : Nat, bad = (b : Int) ∧ b < a.B ∧ n ≤ k ∧ (n : Int) ≤ s.did ∧ v.lf.l b = 3 ∧ s.mark b = true ∧ s.dead b = true
/-- What one page comes to. -/
theorem bad_step {a : NdA} {e : LfA} {s s' : Nd} {v v' : Wr} {t : Tg} {x : Bytes} {n k : Nat} {bad p er : Int} (r : AppR a e t x s v s' v' p er) (hb : v.bad = []) (hf : s.fails = [(n : Int)]) (h : BadI a s v n k bad) :
    er = 130 ∨ (er = 0 ∧ ∃ b' q, b' < a.B ∧ q < a.P ∧ p = ((b' * a.P + q : Nat) : Int) ∧ ((k + 1 ≠ n ∧ v'.bad = [] ∧ BadI a s' v' n (k + 1) bad ∧ bad ≠ (b' : Int)) ∨ (k + 1 = n ∧ ∃ b : Nat, v'.bad = [(b : Int)] ∧ b' ≠ b ∧ (¬ v.lf.op < 0 → v.lf.op = (b : Int)) ∧ BadI a s' v' n (k + 1) (b : Int)))) := by
  by_cases hfn : s.failNow = true
  · have hdid : s.did + 1 = (n : Int) := by
      unfold Nd.failNow at hfn
      rw [hf] at hfn
      simpa using hfn
    rcases h with ⟨rfl, hk, hkn⟩ | ⟨b, _, _, _, hk, _⟩
    · cases r with
      | full h1 h2 => exact .inl rfl
      | good h1 h2 => rw [h2] at hfn; cases hfn
      | @fail _ _ _ v1 _ b _ _ h1 h2 r2 =>
        have hf2 : (s.failed a b v1.lf.nx).failNow = false := by
          unfold Nd.failNow
          have e1 : (s.failed a b v1.lf.nx).did = s.did + 1 + 1 := rfl
          have e2 : (s.failed a b v1.lf.nx).fails = s.fails := rfl
          rw [e1, e2, hf]
          simp; omega
        have hl3 : (({ v1 with lf := v1.lf.took e b } : Wr).spoilt b).lf.l b = 3 := by
          show ((v1.lf.took e b).set b 3).l b = 3
          unfold Lf.set
          split
          · assumption
          · simp [upd]
        rcases r2.calm hf2 with ⟨_, _, _, _, _, h6⟩ | ⟨v2, b', hit, rfl, rfl, rfl, rfl⟩
        · exact .inl h6
        · obtain ⟨k1, k2, k3⟩ := hit_bad hit hl3
          refine .inr ⟨rfl, b', v2.lf.nx, hit.hb, hit.hn, rfl, .inr ⟨by omega, b, ?_, k1, fun ho => ?_, .inr ⟨b, rfl, h1.hb, by omega, ?_, k3, ?_, ?_⟩⟩⟩
          · show v2.bad = _
            rw [hit.bad]
            show v1.bad ++ [(b : Int)] = _
            rw [h1.bad, hb]; rfl
          · rcases h1.op with ⟨_, _, rfl⟩ | ⟨hh, _⟩ | ⟨_, hh, _⟩
            · exact h1.ho
            · exact absurd hh ho
            · cases hh
          · show (n : Int) ≤ s.did + 1 + 1 + 1
            omega
          · show upd s.mark b true b = true
            simp [upd]
          · show upd s.dead b true b = true
            simp [upd]
    · omega
  · have hfn' : s.failNow = false := by cases hh : s.failNow with
      | true => exact absurd hh hfn
      | false => rfl
    have hdid : s.did + 1 ≠ (n : Int) := by
      unfold Nd.failNow at hfn'
      rw [hf] at hfn'
      simpa using hfn'
    rcases r.calm hfn' with ⟨_, _, _, _, _, h6⟩ | ⟨v2, b', hit, rfl, rfl, rfl, rfl⟩
    · exact .inl h6
    · have hbl : v2.bad = [] := by rw [hit.bad, hb]
      rcases h with ⟨rfl, hk, hkn⟩ | ⟨b, rfl, hbB, hkn, hdn, h3, hm, hd⟩
      · exact .inr ⟨rfl, b', v2.lf.nx, hit.hb, hit.hn, rfl, .inl ⟨by omega, hbl, .inl ⟨rfl, by show s.did + 1 = _; omega, by omega⟩, by omega⟩⟩
      · obtain ⟨k1, k2, k3⟩ := hit_bad hit h3
        exact .inr ⟨rfl, b', v2.lf.nx, hit.hb, hit.hn, rfl, .inl ⟨by omega, hbl, .inr ⟨b, rfl, hbB, by omega, by show (n : Int) ≤ s.did + 1; omega, k3, hm, hd⟩, by omega⟩⟩
theorem Row.one_at {H : Heap} {t : Sl} {x : Int} (h : Row H 1 t (intC [x])) : t.len = 1 ∧ ∃ b o, Sl.at 1 t 0 = some (b, o) ∧ rdI .i64 H b o = some x := by
  have hlen := h.len
  have hl1 : t.len = 1 := by simp [intC] at hlen; omega
  obtain ⟨b, o, hp, h1, cs, bk, h2, h3, h4⟩ := slRow_cell h.row (i := 0) (by omega) h.nil
  refine ⟨hl1, b, o + 0 * 1, h1, rdI_of h2 ?_⟩
  exact (h4 0 (by decide)).trans rfl
theorem Row.none_len {H : Heap} {t : Sl} (h : Row H 1 t (intC [])) : t.len = 0 := by
  have hlen := h.len
  simp [intC] at hlen
  omega
theorem WriteBad_true (x0 : Geo) (x1 x2 : Int) (_ : ∀ c ∈ Tup.mk [.int .i64, .int .i64, .int .i64] x0, wfC c) (_ : wfC (.int .i64 x1)) (_ : wfC (.int .i64 x2)) : law13_WriteBad x0 x1 x2 = some (true, ()) := by
  unfold law13_WriteBad law13_WriteBad.on
  let gB : Blk := .cells [.int .i64 x0.1, .int .i64 x0.2.1, .int .i64 x0.2.2.1] .exact
  have q1 : ([] : Heap) ++ [Blk.cells [.int .i64 x0.1, .int .i64 x0.2.1, .int .i64 x0.2.2.1] .exact] = [gB] := rfl
  have r1 := rd_geo (H := [gB]) (k := ([] : Heap).length) (g := x0) (bk := .exact) rfl
  have eg : (x0.1, x0.2.1, x0.2.2.1, ()) = x0 := rfl
  have an := and_ones (k := .i64) (x := x1) (m := 15) 4 (by decide) (by decide)
  have am := and_ones (k := .i64) (x := x2) (m := 15) 4 (by decide) (by decide)
  obtain ⟨n, hn⟩ : ∃ n : Nat, 1 + bitsI .and .i64 x1 15 = (n : Int) := ⟨(1 + bitsI .and .i64 x1 15).toNat, (Int.toNat_of_nonneg (by omega)).symm⟩
  obtain ⟨m, hm⟩ : ∃ m : Nat, bitsI .and .i64 x2 15 = (m : Int) := ⟨(bitsI .and .i64 x2 15).toNat, (Int.toNat_of_nonneg am.1).symm⟩
  have hn1 : 1 ≤ n ∧ n ≤ 16 := by omega
  have hm1 : m ≤ 15 := by omega
  have ew : IntKind.wrap .i64 (1 + bitsI .and .i64 x1 15) = (n : Int) := by rw [hn]; exact wrap_i64 (by omega) (by omega)
  have ew2 : IntKind.wrap .i64 ((n : Int) + bitsI .and .i64 x2 15) = ((n + m : Nat) : Int) := by rw [hm, wrap_i64 (by omega) (by omega)]; omega
  have s2 : Sl.sub 1 ⟨some ([gB].length, 0), 1, 1⟩ 0 (if 8 < ((1 : Nat) : Int) then 8 else ((1 : Nat) : Int)) ((1 : Nat) : Int) = some ⟨some ([gB].length, 0), 1, 1⟩ := rfl
  have hrow : Row ([gB] ++ [Blk.cells [.int .i64 (n : Int)] .exact]) 1 ⟨some ([gB].length, 0), 1, 1⟩ (intC [(n : Int)]) := ⟨row_last rfl, fun hh => by cases hh⟩
  obtain ⟨H1, a, e, z, b1, b2, b3, hB0, hB1, hP0, hP1, hS0, hS1⟩ := begun13 (H := [gB] ++ [Blk.cells [.int .i64 (n : Int)] .exact]) (f1 := ⟨none, 0, 0⟩) (f2 := ⟨some ([gB].length, 0), 1, 1⟩) (f3 := ⟨none, 0, 0⟩) (t1 := ⟨none, 0, 0⟩) (cuts := []) (fails := [(n : Int)]) x0 rfl s2 (Row.ni _ 3 0) hrow (by decide) (by simp)
  obtain ⟨eB, eP⟩ := b2.eB
  have i0 := WInv.new a [(n : Int)] (show 0 < a.P by omega)
  have w0 := Wf.new' (a := a) (fails := [(n : Int)]) (fun x (hx : x ∈ ([] : List Cut)) => by cases hx) (by omega)
  have hPd : decide ((a.P : Int) = 0) = false := decide_eq_false (by omega)
  have hM : WrAt (fun _ => False) H1 z a e (Nd.new [] [(n : Int)] []) Wr.new ⟨none, 0, 0⟩ := b2.more (fun _ _ hh => hh) (fun _ hh => hh.elim)
  obtain ⟨y, R, l1, l2⟩ := loop_rise (step := law13_WriteBad.s1 x1 x2 ((some (a.c, 0), some (z.w, 0), true, ()), H1)) (n + m)
    (fun k y R => ∃ bad s v sb, y = (bad, ((k + 1 : Nat) : Int), ()) ∧ WrAt (fun _ => False) R z a e s v sb ∧ WInv a s v ∧ Wf a s (50 * k) ∧ (∀ i, v.worn i = 0) ∧ v.bad = [] ∧ s.fails = [(n : Int)] ∧ BadI a s v n k bad)
    (fun x R => x = .inr (true, ()) ∨ ∃ b s v sb, x = .inl (((b : Nat) : Int), ()) ∧ WrAt (fun _ => False) R z a e s v sb ∧ s.off = false ∧ b < a.B ∧ v.lf.l b = 3 ∧ s.mark b = true ∧ s.dead b = true)
    (by
      rintro k _ R hk ⟨bad, s, v, sb, rfl, f1, f2, f3, f4, f5, f6, f7⟩
      obtain ⟨R1, p, er, s', v', sb', c1, c2, c3, c4, c5, c6, c7, c8, c9⟩ := app_calm (t := tagN (k + 1)) (x := [116, 101, 120, 116]) f1 f2 f3 (by omega) (by omega) (by rw [f5]; decide) (fun j _ => by rw [f4]; omega) (fun w h1 h2 => tag_ok (by omega)) (tagN_seq (by omega) (w := 0)) (by show 4 ≤ a.S; omega)
      have et : ((tagN (k + 1)).1, (tagN (k + 1)).2.1, (tagN (k + 1)).2.2.1, (tagN (k + 1)).2.2.2.1, (tagN (k + 1)).2.2.2.2.1, ()) = tagN (k + 1) := rfl
      have hLi := write_Life f1
      have hAt := life_At f1.lf
      have hle : decide (((k + 1 : Nat) : Int) ≤ ((n + m : Nat) : Int)) = true := decide_eq_true (by omega)
      have tg := tag_eq (show k + 1 < 4294967296 by omega)
      rcases bad_step c4 f5 f6 f7 with rfl | ⟨rfl, b', q, hb', hq, rfl, hcase⟩
      · refine .inr ⟨.inr (true, ()), R1, ?_, .inl rfl⟩
        unfold law13_WriteBad.s1
        have z1 : decide ((130 : Int) = 0) = false := rfl
        simp only [ew, ew2, hle, cond_t, hLi, bind_some, hAt, tg, et, c1, z1, Bool.not_false, decide_true]
      · obtain ⟨R2, u1, u2, u3, u4⟩ := write_Bads c2
        obtain ⟨R3, g1, g2, g3⟩ := nand_geometry u2.nd
        have u2' := u2.keep g3 fun _ _ => id
        obtain ⟨d1, _⟩ := divP b' q a.P hq
        have hdiv : IntKind.wrap .i64 (Int.tdiv ((b' * a.P + q : Nat) : Int) (a.P : Int)) = (b' : Int) := by
          have : Int.tdiv ((b' * a.P + q : Nat) : Int) (a.P : Int) = (((b' * a.P + q) / a.P : Nat) : Int) := rfl
          rw [this, d1]
          exact wrap_i64 (by omega) (by omega)
        have hsucc := wrap_succ (show k + 1 < 9223372036854775807 by omega)
        have hw7 : ∀ i, v'.worn i = 0 := fun i => by rw [c7]; exact f4 i
        rcases hcase with ⟨hne, hbad, hI, hbb⟩ | ⟨heq, b, hbad, hbb, hop, hI⟩
        · rw [hbad] at u4
          have hl0 := u4.none_len
          have z2 : decide (((sb'.len : Nat) : Int) = 0) = true := decide_eq_true (by omega)
          have z3 : decide (((k + 1 : Nat) : Int) = (n : Int)) = false := decide_eq_false (by omega)
          by_cases hge : 0 ≤ bad
          · refine .inl ⟨(bad, ((k + 1 + 1 : Nat) : Int), ()), R3, ?_, bad, s', _, _, rfl, u2', c5.nobad, c6.le (by omega) (by omega), hw7, rfl, by rw [c9, f6], hI⟩
            unfold law13_WriteBad.s1
            simp only [ew, ew2, hle, cond_t, hLi, bind_some, hAt, tg, et, c1, decide_true, Bool.not_true, cond_f, u1, z2, z3, sum0, decide_eq_true hge, g1, hPd, hdiv, decide_eq_false (Ne.symm hbb), hsucc]
          · refine .inl ⟨(bad, ((k + 1 + 1 : Nat) : Int), ()), R2, ?_, bad, s', _, _, rfl, u2, c5.nobad, c6.le (by omega) (by omega), hw7, rfl, by rw [c9, f6], hI⟩
            unfold law13_WriteBad.s1
            simp only [ew, ew2, hle, cond_t, hLi, bind_some, hAt, tg, et, c1, decide_true, Bool.not_true, cond_f, u1, z2, z3, sum0, decide_eq_false hge, hsucc]
        · rw [hbad] at u4
          obtain ⟨hl1, o1, o2, a1, a2⟩ := u4.one_at
          have z2 : decide (((sb'.len : Nat) : Int) = 1) = true := decide_eq_true (by omega)
          have z3 : decide (((k + 1 : Nat) : Int) = (n : Int)) = true := decide_eq_true (by omega)
          refine .inl ⟨((b : Int), ((k + 1 + 1 : Nat) : Int), ()), R3, ?_, (b : Int), s', _, _, rfl, u2', c5.nobad, c6.le (by omega) (by omega), hw7, rfl, by rw [c9, f6], hI⟩
          unfold law13_WriteBad.s1
          by_cases ho : v.lf.op < 0
          · have hat0 : v.lf.at = (0, 0, false, ()) := if_pos ho
            simp only [ew, ew2, hle, cond_t, hLi, bind_some, hAt, hat0, tg, et, c1, decide_true, Bool.not_true, cond_f, u1, z2, z3, sum0, a1, a2, decide_eq_true (show (0 : Int) ≤ (b : Int) by omega), g1, hPd, hdiv, decide_eq_false (show ¬ (b' : Int) = (b : Int) by omega), hsucc]
          · have hat0 : v.lf.at = (v.lf.op, (v.lf.nx : Int), true, ()) := if_neg ho
            have hop' := hop ho
            rw [hop'] at hat0
            simp only [ew, ew2, hle, cond_t, hLi, bind_some, hAt, hat0, tg, et, c1, decide_true, Bool.not_true, cond_f, u1, z2, z3, sum0, a1, a2, decide_eq_true (show (0 : Int) ≤ (b : Int) by omega), g1, hPd, hdiv, decide_eq_false (show ¬ (b' : Int) = (b : Int) by omega), hsucc])
    (by
      rintro _ R ⟨bad, s, v, sb, rfl, f1, f2, f3, f4, f5, f6, f7⟩
      rcases f7 with ⟨_, _, hh⟩ | ⟨b, rfl, hbB, _, _, h3, hmk, hd⟩
      · omega
      · refine ⟨.inl ((b : Int), ()), R, ?_, .inr ⟨b, s, v, sb, rfl, f1, f2.off, hbB, h3, hmk, hd⟩⟩
        unfold law13_WriteBad.s1
        simp only [ew, ew2, decide_eq_false (show ¬ ((n + m + 1 : Nat) : Int) ≤ ((n + m : Nat) : Int) by omega), cond_f])
    (y := (-1, ((0 + 1 : Nat) : Int), ())) ⟨-1, _, _, _, rfl, hM, i0, w0.le (by omega) (by omega), fun _ => rfl, rfl, rfl, .inl ⟨rfl, rfl, by omega⟩⟩
  have l1' : loopW (law13_WriteBad.s1 x1 x2 ((some (a.c, 0), some (z.w, 0), true, ()), H1)) (-1, 1, ()) H1 = some (y, R) := l1
  rcases l2 with rfl | ⟨b, s, v, sb, rfl, f1, f2, f3, f4, f5, f6⟩
  · simp only [q1, r1, bind_some, eg, ew, b1, awake13, Bool.not_true, cond_f, l1', sum1]
  · have hmk := nand_markedT f1.nd (b : Int)
    have h0 : s.inE a (b : Int) 0 = 0 := inE_yes (q := 0) f2 f3 (by omega)
    have hmk2 : s.markedT a (b : Int) = (true, 0, ()) := by
      unfold Nd.markedT
      rw [if_neg (by rw [h0]; simp), Int.toNat_natCast, f5]
    rw [hmk2] at hmk
    have hLi := write_Life f1
    have hIs := life_Is f1.lf (i := b) (by omega)
    rw [f4] at hIs
    obtain ⟨t, R2, t1, t2, t3, t4⟩ := nand_dead f1.nd
    have hbl : ∀ i, ((fun i => [C.bool (s.dead i)]) i).length = 1 := fun _ => rfl
    have hlen := t2.len
    rw [arrC_length hbl] at hlen
    obtain ⟨o1, o2, hp, h1, cs, bk, h2, h3, h4⟩ := slRow_cell t2.row (i := b) (by omega) t2.nil
    have hrd : rdB R2 o1 (o2 + b * 1) = some true := rdB_of h2 (by
      have := h4 0 (by decide)
      rw [Nat.add_zero] at this
      rw [this, arrC_get hbl (j := 0) (by decide) f3]
      show some (C.bool (s.dead b)) = _
      rw [f6])
    simp only [q1, r1, bind_some, eg, ew, b1, awake13, Bool.not_true, cond_f, l1', sum0, decide_eq_false (show ¬ (b : Int) < 0 by omega), hmk, decide_true, cond_t, hLi, hIs, t1, h1, hrd]
end Ev
