/- CounterNone and CounterRises in plain Lean. -/
import Derived.Test.YtdjmipkijimajaaSLaw39
namespace Ev
open Go (IntKind)

theorem CounterNone_true (x0 x1 x2 : Int) (_ : wfC (.int .i64 x0)) (_ : wfC (.int .i64 x1)) (_ : wfC (.int .i64 x2)) : law39_CounterNone x0 x1 x2 = some (true, ()) := by
  unfold law39_CounterNone law39_CounterNone.on
  obtain ⟨H1, a, q1, q2, q3, qB, qP, qS, q4⟩ := new_yes (B := 8) (P := 4) (S := 64) (f := (⟨none, 0, 0⟩, ⟨none, 0, 0⟩, ⟨none, 0, 0⟩, ())) (cuts := []) (fails := []) (bad := []) [] (by decide) (Row.ni [] 3 0) (Row.ni [] 1 0) (Row.ni [] 1 0) (by decide) (by decide) (by decide)
  have hq1 : nand_New (8, 4, 64, ()) (⟨none, 0, 0⟩, ⟨none, 0, 0⟩, ⟨none, 0, 0⟩, ()) [] = some ((some (a.c, 0), 0, ()), H1) := q1
  have ft := new_fit (a := a) (cuts := []) (fun x hx => by cases hx) (by omega)
  have hok : (cond (!decide (x0 = x1)) (cond (decide (0 ≤ x0)) (cond (decide (0 ≤ x1)) (cond (decide (x0 < 8)) (some (decide (x1 < 8))) (some false)) (some false)) (some false)) (some false) : Option Bool) = some (decide (x0 ≠ x1 ∧ 0 ≤ x0 ∧ 0 ≤ x1 ∧ x0 < 8 ∧ x1 < 8)) := by
    by_cases h1 : x0 = x1
    · simp [h1]
    · by_cases h2 : 0 ≤ x0
      · by_cases h3 : 0 ≤ x1
        · by_cases h4 : x0 < 8
          · by_cases h5 : x1 < 8 <;> simp [h1, h2, h3, h4, h5]
          · simp [h1, h2, h3, h4]
        · simp [h1, h2, h3]
      · simp [h1, h2]
  have hok' : ∀ G : Heap, (cond (!decide (x0 = x1)) (cond (decide (0 ≤ x0)) (cond (decide (0 ≤ x1)) (cond (decide (x0 < 8)) (some (((decide (x1 < 8)), ()), G)) (some ((false, ()), G))) (some ((false, ()), G))) (some ((false, ()), G))) (some ((false, ()), G)) : Option ((Bool × Unit) × Heap)) = some ((decide (x0 ≠ x1 ∧ 0 ≤ x0 ∧ 0 ≤ x1 ∧ x0 < 8 ∧ x1 < 8), ()), G) := by
    intro G
    by_cases h1 : x0 = x1
    · simp [h1]
    · by_cases h2 : 0 ≤ x0
      · by_cases h3 : 0 ≤ x1
        · by_cases h4 : x0 < 8
          · by_cases h5 : x1 < 8 <;> simp [h1, h2, h3, h4, h5]
          · simp [h1, h2, h3, h4]
        · simp [h1, h2, h3]
      · simp [h1, h2]
  have hopen : ∃ G p e, counter_Open (some (a.c, 0)) x0 x1 H1 = some ((p, e, ()), G) ∧ decide (e = 0) = decide (x0 ≠ x1 ∧ 0 ≤ x0 ∧ 0 ≤ x1 ∧ x0 < 8 ∧ x1 < 8) ∧ (!(Option.isNone p)) = decide (x0 ≠ x1 ∧ 0 ≤ x0 ∧ 0 ≤ x1 ∧ x0 < 8 ∧ x1 < 8) := by
    by_cases h : x0 ≠ x1 ∧ 0 ≤ x0 ∧ 0 ≤ x1 ∧ x0 < 8 ∧ x1 < 8
    · obtain ⟨G, c, o1, _⟩ := open_yes q2 (b1 := x0.toNat) (b2 := x1.toNat) (by omega) (by omega) (by omega) rfl ft.fine (by omega) (by omega)
      rw [Int.toNat_of_nonneg (by omega), Int.toNat_of_nonneg (by omega)] at o1
      exact ⟨G, _, 0, o1, by rw [decide_eq_true h]; rfl, by rw [decide_eq_true h]; rfl⟩
    · obtain ⟨G, o1, _⟩ := open_no q2 (b1 := x0) (b2 := x1) (by omega)
      exact ⟨G, none, 1, o1, by rw [decide_eq_false h]; rfl, by rw [decide_eq_false h]; rfl⟩
  obtain ⟨G, p, e, o1, o2, o3⟩ := hopen
  have hnil : ∃ G2, counter_Open none 0 1 G = some ((none, 1, ()), G2) := by
    obtain ⟨G1, m1, m2⟩ := geometry_nil G
    unfold counter_Open
    have w : wr (G1 ++ [Blk.cells [.int .i64 0, .int .i64 0, .int .i64 0] .exact]) G1.length 0 [.int .i64 0, .int .i64 0, .int .i64 0] = some (G1 ++ [Blk.cells [.int .i64 0, .int .i64 0, .int .i64 0] .exact]) := by
      rw [wr_last (by decide) (by decide)]; rfl
    have r0 : rdI .i64 (G1 ++ [Blk.cells [.int .i64 0, .int .i64 0, .int .i64 0] .exact]) G1.length 0 = some 0 := rdI_of app_last rfl
    have d1 : decide ((0 : Int) = 1) = false := rfl
    have d2 : decide ((0 : Int) < 0) = false := rfl
    have d3 : decide ((1 : Int) < 0) = false := rfl
    have d4 : decide ((0 : Int) ≤ 0) = true := rfl
    exact ⟨_, by simp only [m1, bind_some, w, d1, d2, d3, cond_f, r0, d4, cond_t]; rfl⟩
  obtain ⟨G2, o4⟩ := hnil
  have p1 : ∀ H, counter_Counter_Value none H = some ((0, ()), H) := fun _ => rfl
  have p2 : ∀ H, counter_Counter_Raise none x2 H = some ((1, ()), H) := fun _ => rfl
  have p3 : ∀ H, counter_Counter_Step none H = some ((1, ()), H) := fun _ => rfl
  simp only [hq1, bind_some, o1, o4, hok', awake39, cond_t, decide_true, p1, p2, p3, o2, o3, beq_self_eq_true]

theorem CounterRises_true (x0 : Geo) (x1 : Sl) (x2 : Int) {H : Heap} (_ : ∀ c ∈ Tup.mk [.int .i64, .int .i64, .int .i64] x0, wfC c) (hx1 : Came [.int .i64] [] x1 H) (_ : wfC (.int .i64 x2)) : ∃ H', law39_CounterRises x0 x1 x2 H = some ((true, ()), H') := by
  obtain ⟨l, lr, ll, lw, lb⟩ := came_ints hx1
  unfold law39_CounterRises
  let gB : Blk := .cells [.int .i64 x0.1, .int .i64 x0.2.1, .int .i64 x0.2.2.1] .exact
  have r1 := rd_geo (H := H ++ [gB]) (k := H.length) (g := x0) (bk := .exact) app_last
  have q1 : H ++ [Blk.cells [.int .i64 x0.1, .int .i64 x0.2.1, .int .i64 x0.2.2.1] .exact] = H ++ [gB] := rfl
  obtain ⟨R, a, c, b1, b2, b3, b4, b5, b6, b7, b8, b9, bB, bP, bP2⟩ := begun_eq (H := H ++ [gB]) (cuts := []) x0 (Row.ni _ 3 0) (by decide) (fun x hx => by cases hx)
  have eg : (x0.1, x0.2.1, x0.2.2.1, ()) = x0 := rfl
  have hl1 : (H ++ [gB]).length = H.length + 1 := by simp
  have hrow : Row R 1 x1 (intC l) := (lr.push gB).keep b7 fun _ _ _ => id
  have m2 := and_ones (k := .i64) (x := x2) (m := 7) 3 (by decide) (by decide)
  have e2 : IntKind.wrap .i64 (1 + bitsI .and .i64 x2 7) = 1 + bitsI .and .i64 x2 7 := wrap_i64 (by omega) (by omega)
  have dz : decide (1 + bitsI .and .i64 x2 7 = 0) = false := decide_eq_false (by omega)
  obtain ⟨y, G, l1, rfl⟩ := loopW_run (step := law39_CounterRises.s1 x1 x2 ((some (a.c, 0), some (c, 0), true, ()), R))
    (fun t G => ∃ i : Nat, i ≤ 60 ∧ t.2.2.1 = (i : Int) ∧ ∃ c s k, t.1 = some (c, 0) ∧ NdAt G a s ∧ CkAt G c a k ∧ I a s k (i : Int) ∧ k.n = t.2.1 ∧ Fit a s (2 * (i : Int)) ∧ s.off = false ∧ s.cuts = [] ∧ H.length < c ∧ Keep (fun x => H.length < x) R G)
    (fun y _ => y = .inl ()) (fun t _ => 60 - t.2.2.1.toNat)
    (by
      rintro ⟨kp, n, j, u⟩ G ⟨i, hi, hj, c, s, k, hkp, hs, hk, hI, hn, hf, ho, hcu, hcl, hK⟩
      have hj : j = (i : Int) := hj
      have hkp : kp = some (c, 0) := hkp
      have hn : k.n = n := hn
      subst hj hkp hn
      have hn0 := hI.j.n0
      unfold law39_CounterRises.s1
      by_cases hlen : i < l.length
      · by_cases h60 : i < 60
        · have hrow' : Row G 1 x1 (intC l) := hrow.keep hK fun b o hp hf => by have := lr.lt hp; omega
          obtain ⟨b, o, _, x1a, x1b⟩ := hrow'.int hlen
          have hlenI : decide ((i : Int) < (x1.len : Int)) = true := decide_eq_true (by omega)
          have h60I : decide ((i : Int) < 60) = true := decide_eq_true (by omega)
          simp only [hlenI, cond_t, h60I, x1a, bind_some, x1b, e2, dz, cond_f, wrap_succ (show i < 9223372036854775807 by omega)]
          generalize l[i] = to
          have fpc : ∀ x, a.fp x ∨ x = c → H.length < x := fun x hx => by
            rcases hx with h | h
            · have := b8 x (.inl h); omega
            · omega
          -- behind the raise: looked at again, or not
          have next : ∀ {G' : Heap} {s' : Nd} {k' : Ck} {n' : Int}, NdAt G' a s' → CkAt G' c a k' → I a s' k' ((i + 1 : Nat) : Int) → k'.n = n' → Fit a s' (2 * ((i + 1 : Nat) : Int)) → s'.off = false → s'.cuts = [] → Keep (fun x => H.length < x) R G' →
              Round (fun t H' => (∃ i : Nat, i ≤ 60 ∧ t.2.2.1 = (i : Int) ∧ ∃ c s k, t.1 = some (c, 0) ∧ NdAt H' a s ∧ CkAt H' c a k ∧ I a s k (i : Int) ∧ k.n = t.2.1 ∧ Fit a s (2 * (i : Int)) ∧ s.off = false ∧ s.cuts = [] ∧ H.length < c ∧ Keep (fun x => H.length < x) R H') ∧ 60 - t.2.2.1.toNat < 60 - (i : Int).toNat) (fun y _ => y = .inl ())
                ((counter_Counter_Value (some (c, 0)) G').bind fun (r11 : ((Int × Unit) × Heap)) => cond (!decide (r11.1.1 = n')) (some ((Sum.inr (Sum.inr (false, ())) : (Ptr × Int × Int × Unit) ⊕ (Unit ⊕ (Bool × Unit))), r11.2)) (
                  cond (decide ((Int.tmod (i : Int) (1 + bitsI .and .i64 x2 7)) = 0)) (
                    (counter_Open (some (a.c, 0)) 0 1 r11.2).bind fun (r12 : ((Ptr × Int × Unit) × Heap)) => cond (!decide (r12.1.2.1 = 0)) (some (Sum.inr (Sum.inr (false, ())), r12.2)) (
                      (counter_Counter_Value r12.1.1 r12.2).bind fun (r13 : ((Int × Unit) × Heap)) => cond (!decide (r13.1.1 = n')) (some (Sum.inr (Sum.inr (false, ())), r13.2)) (some (Sum.inl (r12.1.1, n', ((i + 1 : Nat) : Int), ()), r13.2))))
                    (some (Sum.inl (some (c, 0), n', ((i + 1 : Nat) : Int), ()), r11.2)))) := by
            intro G' s' k' n' g1 g2 g3 g4 g5 g6 g7 g8
            subst g4
            simp only [ck_value g2, bind_some, decide_true, Bool.not_true, cond_f]
            by_cases hre : Int.tmod (i : Int) (1 + bitsI .and .i64 x2 7) = 0
            · obtain ⟨G2, c2, o1, o2, o3, o4, o5⟩ := open_at g1 (by omega) g6 g5.fine (by omega) (by have := g5.sz; omega)
              obtain ⟨i2, n2⟩ := open_I g5.fine (by omega) g3.j
              have v := ck_value o3
              rw [n2] at v
              simp only [decide_eq_true hre, cond_t, o1, bind_some, decide_true, Bool.not_true, cond_f, v, Round]
              exact ⟨⟨i + 1, by omega, rfl, c2, s', _, rfl, o2, o3, i2, n2, g5, g6, g7, by have := g8.len; have := b7.len; omega, g8.trans (o4.mono fun _ => False.elim)⟩, by simp; omega⟩
            · simp only [decide_eq_false hre, cond_f, Round]
              exact ⟨⟨i + 1, by omega, rfl, c, s', k', rfl, g1, g2, g3, rfl, g5, g6, g7, hcl, g8⟩, by simp; omega⟩
          have same : I a s k ((i + 1 : Nat) : Int) := ⟨J_grow hI.j (by omega), hI.ex, hI.free, hI.next, fun t => by have := hI.w t; omega, hI.turn, hI.dead⟩
          have samef : Fit a s (2 * ((i + 1 : Nat) : Int)) := ⟨hf.fails, hf.dead, by have := hf.did; omega, fun b => by have := hf.worn b; omega, hf.cuts, hf.fine, by omega, hf.sz⟩
          by_cases hbig : 1073741824 < to
          · simp only [decide_eq_true hbig, cond_t, bind_some, raise_over hbig, decide_true, Bool.not_true, cond_f]
            exact next hs hk same rfl samef ho hcu hK
          · by_cases hold : to ≤ k.n
            · simp only [decide_eq_false hbig, cond_f, decide_eq_true hold, cond_t, bind_some, raise_old hs hk (by omega) hI.dead ho hold, decide_true, Bool.not_true]
              exact next hs hk same rfl samef ho hcu hK
            · obtain ⟨G', k', w1, w2, w3, w4, w5, w6, w7, w8, w9, w10⟩ := raise_calm hs hk hI hf (by omega) ho hcu (m := to) (by omega) (by omega)
              simp only [decide_eq_false hbig, cond_f, decide_eq_false hold, bind_some, w1, decide_true, Bool.not_true]
              have ew : (i : Int) + 1 = ((i + 1 : Nat) : Int) := by omega
              have ed : 2 * (i : Int) + 2 = 2 * ((i + 1 : Nat) : Int) := by omega
              rw [ew] at w4
              rw [ed] at w8
              exact next w2 w3 w4 w6 w8 w7 w9 (hK.trans (w10.mono fpc))
        · have hlenI : decide ((i : Int) < (x1.len : Int)) = true := decide_eq_true (by omega)
          have h60I : decide ((i : Int) < 60) = false := decide_eq_false (by omega)
          simp only [hlenI, cond_t, h60I, cond_f, Round]
      · have hlenI : decide ((i : Int) < (x1.len : Int)) = false := decide_eq_false (by omega)
        simp only [hlenI, cond_f, Round]) (some (c, 0), 0, 0, ()) R ⟨0, by omega, rfl, c, _, _, rfl, b2, b3, b4, b5, b6, rfl, rfl, by omega, Keep.refl _ _⟩
  refine ⟨G, ?_⟩
  have l1' : loopW (law39_CounterRises.s1 x1 x2 ((some (a.c, 0), some (c, 0), true, ()), R)) (some (c, 0), 0, 0, ()) R = some (.inl (), G) := l1
  simp only [q1, r1, bind_some, eg, b1, awake39, Bool.not_true, cond_f, l1', sum0]
end Ev
