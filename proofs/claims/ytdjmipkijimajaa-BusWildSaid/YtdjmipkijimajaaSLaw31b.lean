/- BusFails in plain Lean. -/
import Derived.Test.YtdjmipkijimajaaSLaw31a
namespace Ev
open Go (IntKind)

def at3 (c : Int) (n : Nat) (f : Bool) (w : Int) : Bs := ⟨3, c, 3, leB 3 n, [], [], 0, 0, f, false, w⟩
theorem blk3 (a : NdA) (c : Int) (n : Nat) (f : Bool) (w : Int) (h : n < 16777216) : (at3 c n f w).blk a = ((n / a.P : Nat) : Int) := by
  have : (at3 c n f w).row = n := by
    show valB ((leB 3 n).drop ((leB 3 n).length - 3)) = n
    rw [leB_length]; exact valB_leB 3 n (by simpa using h)
  unfold Bs.blk
  rw [this]
theorem addrs96 (a : NdA) (s : Nd) (n : Nat) (f : Bool) (w : Int) : addrs a (s, ⟨1, 96, 3, [], [], [], 0, 0, f, false, w⟩) (leB 3 n) = (s, at3 96 n f w) := rfl
theorem addrs165 (a : NdA) (s : Nd) (n : Nat) (f : Bool) (w : Int) : addrs a (s, ⟨1, 165, 3, [], [], [], 0, 0, f, false, w⟩) (leB 3 n) = (s, (at3 165 n f w).marked (s.markedT a ((at3 165 n f w).blk a))) := rfl
theorem go208 (a : NdA) (s : Nd) (n : Nat) (f : Bool) (w : Int) : (at3 96 n f w).command a s 208 = ((s.eraseT a ((at3 96 n f w).blk a)).2, (at3 96 n f w).erased (s.eraseT a ((at3 96 n f w).blk a)).1) := rfl
theorem inE_ok {a : NdA} {s : Nd} {i q : Nat} (ho : s.off = false) (hi : i < a.B) (hq : q < a.P) : s.inE a (i : Int) (q : Int) = 0 := by
  unfold Nd.inE
  rw [if_neg (by simp [ho]), if_neg (by omega)]
theorem erase_bad' {a : NdA} {s : Nd} {b : Nat} (h1 : s.cutNow = none) (h2 : s.dead b = true ∨ s.failNow = true) : s.erase a b = (54, { s.acted with worn := upd s.worn b (s.worn b + 1), dead := upd s.dead b true }) := by
  unfold Nd.erase
  rw [h1]
  simp only [if_pos h2]
theorem erase_new {a : NdA} {s : Nd} {i : Nat} (hc : s.cuts = []) (hf : s.fails = []) (ho : s.off = false) (hi : i < a.B) (hP : 0 < a.P) : ∃ s1, s.eraseT a (i : Int) = (cond (s.dead i) 54 0, s1) ∧ s1.off = false ∧ s1.mark = s.mark := by
  unfold Nd.eraseT
  have h0 : s.inE a (i : Int) 0 = 0 := inE_ok ho hi hP
  rw [if_neg (by rw [h0]; simp), Int.toNat_natCast]
  cases hd : s.dead i with
  | true =>
    rw [erase_bad' (cutNow_nil hc) (.inl hd), acted_plain (cutNow_nil hc)]
    exact ⟨_, rfl, ho, rfl⟩
  | false =>
    rw [erase_ok (cutNow_nil hc) hd (failNow_nil hf), acted_plain (cutNow_nil hc)]
    exact ⟨_, rfl, ho, rfl⟩
theorem tmod_nat (x : Int) (B : Nat) (hB : 0 < B) (hB2 : B ≤ 100000000) (hx : wfC (.int .i64 x)) : ∃ i : Nat, i < B ∧ Int.tmod (IntKind.wrap .i64 (Int.tmod x (B : Int) + (B : Int))) (B : Int) = (i : Int) := by
  have h1 := Int.tmod_lt_of_pos x (show (0 : Int) < (B : Int) by omega)
  have h2 : -(B : Int) < Int.tmod x (B : Int) := by
    have := Int.lt_tmod_of_pos x (show (0 : Int) < (B : Int) by omega)
    exact this
  rw [wrap_i64 (by omega) (by omega)]
  obtain ⟨m, hm⟩ : ∃ m : Nat, Int.tmod x (B : Int) + (B : Int) = (m : Int) := ⟨(Int.tmod x (B : Int) + (B : Int)).toNat, (Int.toNat_of_nonneg (by omega)).symm⟩
  rw [hm]
  exact ⟨m % B, Nat.mod_lt _ hB, rfl⟩

theorem BusFails_true (x0 : Geo) (x1 : Int) (x2 : Bool) (_ : ∀ c ∈ Tup.mk [.int .i64, .int .i64, .int .i64] x0, wfC c) (h1 : wfC (.int .i64 x1)) : law31_BusFails x0 x1 x2 = some (true, ()) := by
  unfold law31_BusFails law31_BusFails.on
  let gB : Blk := .cells [.int .i64 x0.1, .int .i64 x0.2.1, .int .i64 x0.2.2.1] .exact
  let fB (t : Sl) : Blk := .cells [.sl 3 ⟨none, 0, 0⟩, .sl 1 ⟨none, 0, 0⟩, .sl 1 t] .exact
  have q1 : ([] : Heap) ++ [Blk.cells [.int .i64 x0.1, .int .i64 x0.2.1, .int .i64 x0.2.2.1] .exact] = [gB] := rfl
  have w1 : wr ([gB] ++ [Blk.cells [.sl 3 Sl.nil, .sl 1 Sl.nil, .sl 1 Sl.nil] .exact]) [gB].length 0 [.sl 3 ⟨none, 0, 0⟩, .sl 1 ⟨none, 0, 0⟩, .sl 1 ⟨none, 0, 0⟩] = some [gB, fB ⟨none, 0, 0⟩] := rfl
  have w2 : wr ([gB, fB ⟨none, 0, 0⟩] ++ [Blk.cells [.int .i64 2] .exact]) [gB].length 2 [.sl 1 ⟨some ([gB, fB ⟨none, 0, 0⟩].length, 0), 1, 1⟩] = some [gB, fB ⟨some (2, 0), 1, 1⟩, .cells [.int .i64 2] .exact] := rfl
  -- the faults
  obtain ⟨t, bad, H2, e2, hg, hf, hrow, hbad, hs3⟩ : ∃ (t : Sl) (bad : List Int) (H2 : Heap), ((cond x2 ((wr ([gB, fB ⟨none, 0, 0⟩] ++ [Blk.cells [.int .i64 2] .exact]) [gB].length 2 [.sl 1 ⟨some ([gB, fB ⟨none, 0, 0⟩].length, 0), 1, 1⟩]).bind fun (H5 : Heap) => some ((()), H5)) (some ((()), [gB, fB ⟨none, 0, 0⟩])) : Option ((Unit) × Heap)) = some ((), H2)) ∧ H2[0]? = some gB ∧ H2[1]? = some (fB t) ∧ Row H2 1 t (intC bad) ∧ bad = (cond x2 [2] []) ∧ Sl.sub 1 t 0 (if 4 < (t.len : Int) then 4 else (t.len : Int)) (t.cap : Int) = some t := by
    cases x2 with
    | true => exact ⟨⟨some (2, 0), 1, 1⟩, [2], _, rfl, rfl, rfl, ⟨rfl, fun h => by cases h⟩, rfl, rfl⟩
    | false => exact ⟨⟨none, 0, 0⟩, [], _, rfl, rfl, rfl, Row.ni _ 1 0, rfl, rfl⟩
  have r1 := rd_geo (H := H2) (k := ([] : Heap).length) (g := x0) (bk := .exact) hg
  have r2 : @Eq (Option (Sl × Sl × Sl × Unit)) (rd H2 (.agg [.sl 3, .sl 1, .sl 1]) [gB].length 0) (some (⟨none, 0, 0⟩, ⟨none, 0, 0⟩, t, ())) := by
    refine rd_agg_of hf (by simp) ?_
    simp [Tup.un, CT.un]
    rfl
  obtain ⟨R, a, b, b1, b2, b3, b4⟩ := begun31 (H := H2) (f1 := ⟨none, 0, 0⟩) (f2 := ⟨none, 0, 0⟩) (f3 := t) (t1 := ⟨none, 0, 0⟩) (t2 := ⟨none, 0, 0⟩) (t3 := t) (cuts := []) (fails := []) (bad := bad) x0 rfl rfl hs3 (Row.ni _ 3 0) (Row.ni _ 1 0) hrow (by decide) (by decide) (by rw [hbad]; cases x2 <;> decide) (fun x hx => by cases hx)
  have eg : (x0.1, x0.2.1, x0.2.2.1, ()) = x0 := rfl
  have hB0 : decide ((a.B : Int) = 0) = false := decide_eq_false (by omega)
  obtain ⟨i, hi, hk⟩ := tmod_nat x1 a.B (by omega) (by omega) h1
  obtain ⟨H3, g1, g2, _⟩ := b2.geometry
  obtain ⟨H4, c1, c2, _⟩ := g2.command (by decide) 96
  rw [start a _ Bs.new 96 rfl (by decide) (by decide) rfl, show wantsN 96 = 3 from rfl, show Bs.new.fail = false from rfl, show Bs.new.wrong = 0 from rfl] at c2
  obtain ⟨H5, d1, d2, _⟩ := c2.geometry
  have hip : i * a.P < 165 := by
    have := Nat.mul_le_mul (show i ≤ 14 by omega) (show a.P ≤ 11 by omega)
    omega
  have ewp : IntKind.wrap .i64 ((i : Int) * (a.P : Int)) = ((i * a.P : Nat) : Int) := by rw [← Int.natCast_mul, wrap_i64 (by omega) (by omega)]
  obtain ⟨H6, e1, e2', _⟩ := d2.send (i * a.P) 3 (by decide) (by decide)
  have e1' : law31_send (some (b, 0)) ((i * a.P : Nat) : Int) 3 H5 = some ((), H6) := e1
  rw [addrs96] at e2'
  obtain ⟨H7, f1, f2, _⟩ := e2'.command (by decide) 208
  have hbk : (at3 96 (i * a.P) false 0).blk a = (i : Int) := by rw [blk3 _ _ _ _ _ (by omega), Nat.mul_div_cancel _ (show 0 < a.P by omega)]
  obtain ⟨s1, x1', x2', x3'⟩ := erase_new (a := a) (s := Nd.new [] [] bad) (i := i) rfl rfl rfl hi (by omega)
  rw [go208, hbk, x1'] at f2
  simp only at f2
  generalize hdd : (Nd.new [] [] bad).dead i = dd at *
  have he : (at3 96 (i * a.P) false 0).erased (cond dd 54 0) = ⟨0, 96, 3, leB 3 (i * a.P), [], [], 0, 15, dd, false, 0⟩ := by cases dd <;> rfl
  rw [he] at f2
  obtain ⟨H8, m1, m2, _⟩ := f2.polls 15 (by decide) rfl
  have m1' : law31_polls (some (b, 0)) H7 = some ((15, ()), H8) := m1
  obtain ⟨H9, n1, n2, _⟩ := m2.command (by decide) 112
  rw [show Bs.command a s1 (⟨0, 96, 3, leB 3 (i * a.P), [], [], 0, 0, dd, false, 0⟩ : Bs) 112 = (s1, ⟨0, 96, 3, leB 3 (i * a.P), [], [], 0, 0, dd, true, 0⟩) from rfl] at n2
  obtain ⟨H10, o1, o2, _⟩ := n2.out (by decide)
  rw [show Bs.outF (⟨0, 96, 3, leB 3 (i * a.P), [], [], 0, 0, dd, true, 0⟩ : Bs) = (cond dd 193 192, ⟨0, 96, 3, leB 3 (i * a.P), [], [], 0, 0, dd, false, 0⟩) by cases dd <;> rfl] at o1 o2
  obtain ⟨H11, p1, p2, _⟩ := o2.command (by decide) 165
  rw [start a _ _ 165 rfl (by decide) (by decide) rfl, show wantsN 165 = 3 from rfl] at p2
  simp only at p2
  obtain ⟨H12, q1', q2, _⟩ := p2.geometry
  obtain ⟨H13, u1, u2, _⟩ := q2.send (i * a.P) 3 (by decide) (by decide)
  have u1' : law31_send (some (b, 0)) ((i * a.P : Nat) : Int) 3 H12 = some ((), H13) := u1
  rw [addrs165, blk3 _ _ _ _ _ (by omega), Nat.mul_div_cancel _ (show 0 < a.P by omega)] at u2
  have hmk : s1.markedT a (i : Int) = (dd, 0, ()) := by
    unfold Nd.markedT
    have h0 : s1.inE a (i : Int) 0 = 0 := inE_ok (q := 0) x2' hi (show 0 < a.P by omega)
    rw [if_neg (by rw [h0]; simp), Int.toNat_natCast, x3', ← hdd]; rfl
  rw [hmk] at u2
  obtain ⟨H14, v1, v2, _⟩ := u2.polls 3 (by decide) rfl
  have v1' : law31_polls (some (b, 0)) H13 = some ((3, ()), H14) := v1
  have hK : ({ (at3 165 (i * a.P) dd 0).marked (dd, 0, ()) with busy := 0 } : Bs) = ⟨4, 165, 3, leB 3 (i * a.P), [], cond dd [0] [255], 0, 0, false, false, 0⟩ := by cases dd <;> rfl
  rw [hK] at v2
  obtain ⟨H15, y1, y2, _⟩ := v2.out (by decide)
  rw [show Bs.outF (⟨4, 165, 3, leB 3 (i * a.P), [], cond dd [0] [255], 0, 0, false, false, 0⟩ : Bs) = (cond dd 0 255, ⟨4, 165, 3, leB 3 (i * a.P), [], cond dd [0] [255], 1, 0, false, false, 0⟩) by cases dd <;> rfl] at y1 y2
  have z1 := y2.wrong
  simp only [q1, w1, bind_some, e2, r1, r2, eg, b1, awake31, Bool.not_true, cond_f, g1, hB0, hk, c1, d1, ewp, e1', f1, m1', n1, o1, p1, q1', u1', v1', y1, z1]
  have hdd2 : dd = (x2 && decide ((i : Int) = 2)) := by
    rw [← hdd, hbad]
    show decide ((i : Int) ∈ cond x2 [2] []) = _
    cases x2 <;> simp
  have a1 : bitsI .and .u8 193 1 = 1 := by decide
  have a0 : bitsI .and .u8 192 1 = 0 := by decide
  cases x2 with
  | true =>
    have : dd = decide ((i : Int) = 2) := hdd2
    rw [← this]
    cases dd <;> simp only [cond_t, cond_f, decide_true, a1, a0] <;> rfl
  | false =>
    have : dd = false := hdd2
    rw [this]
    simp only [cond_t, cond_f, decide_true, a1, a0]
    rfl
end Ev
