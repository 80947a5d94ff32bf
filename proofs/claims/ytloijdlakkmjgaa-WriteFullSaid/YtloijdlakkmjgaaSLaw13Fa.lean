/- Chapter 13: WriteFull. -/
import Derived.Test.YtloijdlakkmjgaaSLaw13F
namespace Ev
open Go (IntKind)

theorem room_mul {b q P B k : Nat} (hk : k = b * P + q) (h : k < B * P) : b < B := by
  by_cases hb : b < B
  · exact hb
  · have := Nat.mul_le_mul_right P (show B ≤ b by omega)
    omega
theorem room_end {b q P B : Nat} (hk : B * P = b * P + q) (hq : q < P) : b = B ∧ q = 0 := by
  have h1 := divP b q P hq
  have h2 := divP B 0 P (by omega)
  rw [← hk] at h1
  rw [Nat.add_zero] at h2
  omega
theorem WriteFull_true (x0 : Geo) (x1 : Int) (_ : ∀ c ∈ Tup.mk [.int .i64, .int .i64, .int .i64] x0, wfC c) (_ : wfC (.int .i64 x1)) : law13_WriteFull x0 x1 = some (true, ()) := by
  unfold law13_WriteFull law13_WriteFull.on
  have q1 : ([] : Heap) ++ [Blk.cells [.int .i64 x0.1, .int .i64 x0.2.1, .int .i64 x0.2.2.1] .exact] = [Blk.cells [.int .i64 x0.1, .int .i64 x0.2.1, .int .i64 x0.2.2.1] .exact] := rfl
  have r1 := rd_geo (H := [Blk.cells [.int .i64 x0.1, .int .i64 x0.2.1, .int .i64 x0.2.2.1] .exact]) (k := ([] : Heap).length) (g := x0) (bk := .exact) rfl
  have eg : (x0.1, x0.2.1, x0.2.2.1, ()) = x0 := rfl
  obtain ⟨H1, a, e, z, b1, b2, b3, ⟨hB0, hB1, hP0, hP1, hS0, hS1⟩, i0, w0⟩ := begun13n [Blk.cells [.int .i64 x0.1, .int .i64 x0.2.1, .int .i64 x0.2.2.1] .exact] x0
  obtain ⟨eB, eP⟩ := b2.eB
  obtain ⟨G, g1, g2, g3⟩ := nand_geometry b2.nd
  have hg := b2.keep g3 fun _ _ => id
  let zB : Blk := .cells [.int .i64 (a.B : Int), .int .i64 (a.P : Int), .int .i64 (a.S : Int)] .exact
  have w1 : wr (G ++ [Blk.cells [.int .i64 0, .int .i64 0, .int .i64 0] .exact]) G.length 0 [.int .i64 (a.B : Int), .int .i64 (a.P : Int), .int .i64 (a.S : Int)] = some (G ++ [zB]) := by
    rw [wr_last (by decide) (by simp)]; rfl
  have h0 : WrAt (fun k => k = G.length) (G ++ [zB]) z a e (Nd.new [] [] []) Wr.new ⟨none, 0, 0⟩ := (hg.push zB).more (fun k hk hm => by have := hg.lt hk; omega) (fun k hk => by simp; omega)
  have hBP : a.B * a.P ≤ 165 := Nat.mul_le_mul (show a.B ≤ 15 by omega) (show a.P ≤ 11 by omega)
  have mz : IntKind.wrap .i64 ((a.B : Int) * (a.P : Int)) = ((a.B * a.P : Nat) : Int) := by
    rw [← Int.natCast_mul]; generalize a.B * a.P = m at hBP; exact wrap_i64 (by omega) (by omega)
  obtain ⟨y, R, l1, rfl, s, v, sb, f1, f2, f3, f4, f5, f6, f7⟩ := loop_rise (step := law13_WriteFull.s1 ((some (a.c, 0), some (z.w, 0), true, ()), H1) ((((a.B : Int), (a.P : Int), (a.S : Int), ()), ()), G)) (a.B * a.P)
    (fun k y R => y = ((k : Int), ()) ∧ ∃ s v sb b q, WrAt (fun k => k = G.length) R z a e s v sb ∧ R[G.length]? = some zB ∧ WInv a s v ∧ Wf a s (40 * k) ∧ s.fails = [] ∧ (∀ i, s.dead i = false) ∧ FllV a v b q ∧ k = b * a.P + q)
    (fun x R => x = .inl () ∧ ∃ s v sb, WrAt (fun k => k = G.length) R z a e s v sb ∧ R[G.length]? = some zB ∧ WInv a s v ∧ Wf a s 8000 ∧ s.fails = [] ∧ (∀ i, s.dead i = false) ∧ FllV a v a.B 0)
    (by
      rintro k _ R hk ⟨rfl, s, v, sb, b, q, f1, f2, f3, f4, f5, f6, f7, f8⟩
      have hb := room_mul f8 hk
      obtain ⟨n1, n2, _, _, n5, n6⟩ := f7.nxt eB hb
      obtain ⟨_, _, hnx, R', sb', c1, c2, c3, c4, c5⟩ := app_next f1 f3 f4 (by omega) (by omega) (by omega) (by rw [f7.bad]; decide) (n := k) (by omega) (x := [120]) (fun j _ => by rw [f7.worn]; omega) (by show 1 ≤ a.S; omega) (failNow_nil f5) n1
      have rB : rdI .i64 R G.length 0 = some (a.B : Int) := rdI_of f2 rfl
      have rP : rdI .i64 R G.length 1 = some (a.P : Int) := rdI_of f2 rfl
      refine .inl ⟨(((k + 1 : Nat) : Int), ()), R', ?_, rfl, _, _, sb', _, _, c2, c3.get f2 (fun h => h rfl), c4, c5.le (by omega) (by omega), f5, f6, f7.step eB eP hb, next_at f8 f7.q⟩
      unfold law13_WriteFull.s1
      have et : ((tagN k).1, (tagN k).2.1, (tagN k).2.2.1, (tagN k).2.2.2.1, (tagN k).2.2.2.2.1, ()) = tagN k := rfl
      simp only [rB, rP, bind_some, mz, decide_eq_true (show (k : Int) < ((a.B * a.P : Nat) : Int) by omega), cond_t, tag_eq (show k < 4294967296 by omega), et, c1, decide_true, Bool.not_true, cond_f, wrap_succ (show k < 9223372036854775807 by omega)])
    (by
      rintro _ R ⟨rfl, s, v, sb, b, q, f1, f2, f3, f4, f5, f6, f7, f8⟩
      obtain ⟨rfl, rfl⟩ := room_end f8 f7.q
      have rB : rdI .i64 R G.length 0 = some (a.B : Int) := rdI_of f2 rfl
      have rP : rdI .i64 R G.length 1 = some (a.P : Int) := rdI_of f2 rfl
      refine ⟨.inl (), R, ?_, rfl, s, v, sb, f1, f2, f3, f4.le (by omega) (by omega), f5, f6, f7⟩
      unfold law13_WriteFull.s1
      simp only [rB, rP, bind_some, mz, decide_eq_false (show ¬ ((a.B * a.P : Nat) : Int) < ((a.B * a.P : Nat) : Int) by omega), cond_f])
    (y := (((0 : Nat) : Int), ())) ⟨rfl, _, _, _, 0, 0, h0, app_last, i0, w0.le (by omega) (by omega), rfl, fun i => (by show decide ((i : Int) ∈ ([] : List Int)) = false; simp), FllV.new a (by omega), by omega⟩
  have l1' : loopW (law13_WriteFull.s1 ((some (a.c, 0), some (z.w, 0), true, ()), H1) ((((a.B : Int), (a.P : Int), (a.S : Int), ()), ()), G)) (0, ()) (G ++ [zB]) = some (.inl (), R) := l1
  obtain ⟨R2, p2, er2, s2, v2, sb2, c1, c2, c3, c4, _, _, _, _, _⟩ := app_calm (t := tagN 1) (x := [120]) f1 f3 f4 (by decide) (by omega) (by rw [f7.bad]; decide) (fun j _ => by rw [f7.worn]; omega) (fun w h1 h2 => tag_ok (by omega)) (tagN_seq (by decide) (w := 0)) (by show 1 ≤ a.S; omega)
  have hop := f7.op
  rw [if_neg (by omega)] at hop
  have hl2 : ∀ i, i < a.B → v.lf.l i = 2 := fun i hi => by rw [f7.l i hi, if_pos hi]
  have hful : s2 = s ∧ v2 = v ∧ p2 = 0 ∧ er2 = 130 := by
    rcases c4.calm (failNow_nil f5) with ⟨_, _, h3, h4, h5, h6⟩ | ⟨v1, b', hit, _⟩
    · exact ⟨h3, h4, h5, h6⟩
    · exfalso
      rcases hit.op with ⟨hh, _⟩ | ⟨_, _, c, hc, hf, _⟩ | ⟨_, hh, _⟩
      · omega
      · have := hl2 c (by omega); omega
      · cases hh
  obtain ⟨rfl, rfl, rfl, rfl⟩ := hful
  obtain ⟨b, hb, htm⟩ := tmod_pick x1 a.B (by omega) (by omega)
  obtain ⟨R3, sb3, d1, d2, d3, d4, d5⟩ := erase_next c2 f3 f4 (by decide) (by rw [f7.bad]; decide) (fun j _ => by rw [f7.worn]; omega) (failNow_nil f5) hb (f6 b) (by rw [hl2 b hb]; decide)
  have hset : s2.fails = [] := f5
  have hlf : v2.lf.set b 0 = ⟨upd v2.lf.l b 0, -1, v2.lf.nx⟩ := by
    unfold Lf.set
    rw [if_neg (by rw [hl2 b hb]; decide), hop, if_neg (by omega)]
  have hn : Nxt e ({ v2 with worn := upd v2.worn b (v2.worn b + 1), lf := v2.lf.set b 0 } : Wr) b := by
    refine .inr ⟨?_, by omega, ?_, fun c hc hc0 => ?_⟩
    · show (v2.lf.set b 0).op < 0
      rw [hlf]; show (-1 : Int) < 0; decide
    · show (v2.lf.set b 0).l b = 0
      rw [hlf]; simp [upd]
    · have h' : (v2.lf.set b 0).l c = 0 := hc0
      rw [hlf] at h'
      have h'' : upd v2.lf.l b 0 c = 0 := h'
      unfold upd at h''
      split at h''
      · rename_i hcb; subst hcb
        exact ⟨Int.le_refl _, fun hh => absurd hh (by omega)⟩
      · have := hl2 c (by omega); omega
  have hnx : (({ v2 with worn := upd v2.worn b (v2.worn b + 1), lf := v2.lf.set b 0 } : Wr).opn b).lf.nx = 0 := by
    unfold Wr.opn
    rw [if_pos (by show (v2.lf.set b 0).op < 0; rw [hlf]; show (-1 : Int) < 0; decide)]
  obtain ⟨_, _, _, R4, sb4, k1, k2, k3, _⟩ := app_next d2 d4 d5 (by decide) (by omega) (by omega) (by show v2.bad.length ≤ _; rw [f7.bad]; decide) (n := 1) (by decide) (x := [121]) (fun j _ => by
    show 0 ≤ upd v2.worn b (v2.worn b + 1) j ∧ upd v2.worn b (v2.worn b + 1) j ≤ 1000000
    unfold upd
    split <;> rw [f7.worn] <;> omega) (by show 1 ≤ a.S; omega) (failNow_nil hset) hn
  rw [hnx, Nat.add_zero] at k1
  have f2' := c3.get f2 (fun h => h rfl)
  have f4' := k3.get (d3.get f2' (fun h => h rfl)) (fun h => h rfl)
  have rB : rdI .i64 R2 G.length 0 = some (a.B : Int) := rdI_of f2' rfl
  have rP : rdI .i64 R4 G.length 1 = some (a.P : Int) := rdI_of f4' rfl
  have hbP : b * a.P ≤ 165 := Nat.mul_le_mul (show b ≤ 15 by omega) (show a.P ≤ 11 by omega)
  have mz2 : IntKind.wrap .i64 ((b : Int) * (a.P : Int)) = ((b * a.P : Nat) : Int) := by
    rw [← Int.natCast_mul]; generalize b * a.P = m at hbP; exact wrap_i64 (by omega) (by omega)
  have et : ((tagN 1).1, (tagN 1).2.1, (tagN 1).2.2.1, (tagN 1).2.2.2.1, (tagN 1).2.2.2.2.1, ()) = tagN 1 := rfl
  have t1 : law13_tag 1 = some (tagN 1, ()) := tag_eq (n := 1) (by decide)
  have hd : decide ((a.B : Int) = 0) = false := decide_eq_false (by omega)
  simp only [q1, r1, bind_some, eg, b1, awake13, Bool.not_true, cond_f, g1, w1, l1', sum0, t1, et, c1, rB, hd, htm, d1, k1, decide_true, cond_t, rP, mz2]
end Ev
