/- CounterCuts and CounterTurns in plain Lean. -/
import Derived.Test.YtdjmipkijimajaaSLaw39r
namespace Ev
open Go (IntKind)

theorem came_le {cts : List CT} {B H : Heap} {s : Sl} (h : Came cts B s H) : s.len ≤ s.cap := by
  rcases h with ⟨rfl, rfl⟩ | ⟨len, rows, rfl, h1, h2, rfl, h3⟩
  · exact Nat.le_refl _
  · exact h1
/-- The first rows of a slice. -/
theorem row_head {cts : List CT} {H : Heap} {s : Sl} {rows : List (Tup cts)} (h : Row H cts.length s (rowsOf cts rows)) (hl : s.len = rows.length) (hc : s.len ≤ s.cap) {n : Nat} (hn : n ≤ s.len) :
    Sl.sub cts.length s 0 (n : Int) (s.cap : Int) = some ⟨s.p, n, s.cap⟩ ∧ Row H cts.length ⟨s.p, n, s.cap⟩ (rowsOf cts (rows.take n)) := by
  constructor
  · unfold Sl.sub
    have : decide (0 ≤ (0 : Int) ∧ (0 : Int) ≤ (n : Int) ∧ (n : Int) ≤ (s.cap : Int) ∧ (s.cap : Int) ≤ (s.cap : Int)) = true := decide_eq_true (by omega)
    rw [this, cond_t]
    cases hp : s.p with
    | none => simp
    | some a => simp
  · refine ⟨?_, fun hp => by have := h.nil hp; show n = 0; omega⟩
    cases hp : s.p with
    | none =>
      have h0 := h.nil hp
      have : n = 0 := by omega
      subst this
      simp [slRow, rowsOf]
    | some x =>
      obtain ⟨cs, bk, h1, h2, h3⟩ := slRow_some (b := x.1) (o := x.2) hp h.row
      have hle : n * cts.length ≤ s.len * cts.length := Nat.mul_le_mul_right _ hn
      unfold slRow
      simp only [Heap.row, h1]
      rw [cut_of (by omega), ← rows_take, ← h3, List.take_take, Nat.min_eq_left hle]

section
variable {H : Heap} {a : NdA} {s : Nd} {c : Nat} {k : Ck} {D W : Int}
/-- A step of which the power may fail. -/
theorem step_any (h : NdAt H a s) (hk : CkAt H c a k) (i : I a s k W) (f : Fit a s D) (hD : D + 2 < 1000000) (ho : s.off = false) (hm : k.n < 1073741824) (hW : W + 1 < 4294967296) :
    ∃ H' s' k' e, counter_Counter_Step (some (c, 0)) H = some ((e, ()), H') ∧ NdAt H' a s' ∧ CkAt H' c a k' ∧ Fit a s' (D + 2) ∧ Keep (fun x => a.fp x ∨ x = c) H H' ∧
      ((e = 0 ∧ I a s' k' (W + 1) ∧ k'.n = k.n + 1 ∧ s'.off = false) ∨ (e = 51 ∧ (J a s' k.n (W + 1) ∨ J a s' (k.n + 1) (W + 1)) ∧ k'.n = k.n ∧ s'.off = true ∧ k'.dead = true)) := by
  have hn0 := i.j.n0
  obtain ⟨H', q1, q2, q3, q4⟩ := raise_new h hk f (by omega) ho i.dead (m := k.n + 1) (by omega) (by omega) (fun t => by have := i.w t; omega) i.free (by have := i.next; have := f.sz; omega)
  have hst : counter_Counter_Step (some (c, 0)) H = some (((k.raise a s (k.n + 1)).1, ()), H') := by rw [step_eq hk (by omega), q1]; rfl
  rcases raise_step i f hD ho (m := k.n + 1) (by omega) hW with d | d
  · have e0 : decide ((k.raise a s (k.n + 1)).1 = 51) = false := by rw [d.e]; rfl
    rw [e0] at q3
    exact ⟨H', _, _, _, hst, q2, q3, d.fit, q4, .inl ⟨d.e, d.i.alive, d.n, d.off⟩⟩
  · have e0 : decide ((k.raise a s (k.n + 1)).1 = 51) = true := by rw [d.e]; rfl
    rw [e0] at q3
    exact ⟨H', _, _, _, hst, q2, q3, d.fit, q4, .inr ⟨d.e, d.j, d.n, d.off, rfl⟩⟩
theorem step_dead (h : NdAt H a s) (hk : CkAt H c a k) (hn : 0 ≤ k.n ∧ k.n < 1073741824) (hd : k.dead = true) : ∃ H', counter_Counter_Step (some (c, 0)) H = some ((51, ()), H') ∧ NdAt H' a s ∧ Keep (fun x => x = c) H H' := by
  obtain ⟨H', q1, q2, q3, q4⟩ := raise_dead h hk (m := k.n + 1) (by omega) (.inl hd)
  exact ⟨H', by rw [step_eq hk (by omega), q1]; rfl, q2, q4⟩

theorem Fit.power (f : Fit a s D) : Fit a { s with off := false } D := ⟨f.fails, f.dead, f.did, f.worn, f.cuts, f.fine, f.small, f.sz⟩
theorem J.power {n : Int} (j : J a s n W) : J a { s with off := false } n W := ⟨j.le, j.ex, j.n0⟩

/-- The power comes back, and it is opened anew. -/
theorem reopen {R : (Ptr × Ptr × Bool × Unit) × Heap} (hR : R.1.1 = some (a.c, 0)) (h : NdAt H a s) (f : Fit a s D) (hB : 2 ≤ a.B) {n : Int} (hW : 0 ≤ W) (j : J a s n W) :
    ∃ H' c' s' k', loopW (law39_CounterCuts.s1 R) (none, 51, 0, ()) H = some ((some (c', 0), 0, ()), H') ∧ NdAt H' a s' ∧ CkAt H' c' a k' ∧ I a s' k' W ∧ k'.n = n ∧ s'.off = false ∧ Fit a s' D ∧ Keep a.fp H H' ∧ H.length ≤ c' := by
  obtain ⟨H1, p1, p2, p3⟩ := nand_power h
  have f1 := f.power
  obtain ⟨H2, c', o1, o2, o3, o4, o5⟩ := open_at p2 hB rfl f1.fine (by have := f1.sz; omega) (by have := f1.sz; omega)
  obtain ⟨hI, hn⟩ := open_I f1.fine hW j.power
  refine ⟨H2, c', _, _, ?_, o2, o3, hI, hn, rfl, f1, p3.trans (o4.mono fun _ => False.elim), by have := p3.len; omega⟩
  refine loop_for' 1 (fun i => if i = 0 then ((none : Ptr), (51 : Int), (0 : Int), ()) else (some (c', 0), 0, 1, ())) (fun i => if i = 0 then H else H2) rfl rfl ?_ ?_
  · intro i hi
    have : i = 0 := by omega
    subst this
    unfold law39_CounterCuts.s1
    have d1 : decide ((0 : Int) < 9) = true := rfl
    have d2 : decide ((51 : Int) = 51) = true := rfl
    have w0 : IntKind.wrap .i64 ((0 : Int) + 1) = 1 := rfl
    simp only [if_true, d1, cond_t, d2, hR, p1, bind_some, o1, w0]
    rfl
  · unfold law39_CounterCuts.s1
    rfl
end

theorem CounterCuts_true (x0 : Geo) (x1 : Sl) (x2 : Int) {H : Heap} (_ : ∀ c ∈ Tup.mk [.int .i64, .int .i64, .int .i64] x0, wfC c) (hx1 : Came [.int .i64, .int .i64, .int .u8] [] x1 H) (_ : wfC (.int .i64 x2)) : ∃ H', law39_CounterCuts x0 x1 x2 H = some ((true, ()), H') := by
  obtain ⟨rows, lr, ll, lw, lb⟩ := came_rows hx1
  have lle := came_le hx1
  unfold law39_CounterCuts
  let gB : Blk := .cells [.int .i64 x0.1, .int .i64 x0.2.1, .int .i64 x0.2.2.1] .exact
  have r1 := rd_geo (H := H ++ [gB]) (k := H.length) (g := x0) (bk := .exact) app_last
  have q1 : H ++ [Blk.cells [.int .i64 x0.1, .int .i64 x0.2.1, .int .i64 x0.2.2.1] .exact] = H ++ [gB] := rfl
  have em : (if (6 : Int) < (x1.len : Int) then 6 else (x1.len : Int)) = ((min 6 x1.len : Nat) : Int) := by split <;> omega
  obtain ⟨s1, s2⟩ := row_head (cts := [.int .i64, .int .i64, .int .u8]) lr ll lle (n := min 6 x1.len) (by omega)
  have s1' : Sl.sub 3 x1 0 ((min 6 x1.len : Nat) : Int) (x1.cap : Int) = some ⟨x1.p, min 6 x1.len, x1.cap⟩ := s1
  have s2' : Row H 3 ⟨x1.p, min 6 x1.len, x1.cap⟩ (cutC (rows.take (min 6 x1.len))) := s2
  have hfi : ∀ x ∈ (rows.take (min 6 x1.len) : List Cut), 0 ≤ x.2.2.1 ∧ x.2.2.1 < 256 := by
    intro x hx
    have := lw x (List.mem_of_mem_take hx) (.int .u8 x.2.2.1) (by simp [Tup.mk, CT.mk])
    have hb : ∀ f : Int, wfC (.int .u8 f) → 0 ≤ f ∧ f ≤ 255 := fun f hf => hf
    have := hb _ this
    omega
  have hcl : (rows.take (min 6 x1.len) : List Cut).length ≤ 1099511627776 := by
    have : (rows.take (min 6 x1.len)).length ≤ min 6 x1.len := List.length_take_le _ _
    exact Nat.le_trans this (by omega)
  obtain ⟨R, a, c, b1, b2, b3, b4, b5, b6, b7, b8, b9, bB, bP, bP2⟩ := begun_eq (H := H ++ [gB]) (cuts := rows.take (min 6 x1.len)) x0 (s2'.push gB) hcl hfi
  have eg : (x0.1, x0.2.1, x0.2.2.1, ()) = x0 := rfl
  have hl1 : (H ++ [gB]).length = H.length + 1 := by simp
  have m2 := and_ones (k := .i64) (x := x2) (m := 127) 7 (by decide) (by decide)
  obtain ⟨n, hn, hn1⟩ : ∃ n : Nat, bitsI .and .i64 x2 127 = (n : Int) ∧ n ≤ 127 := ⟨_, (Int.toNat_of_nonneg m2.1).symm, by omega⟩
  obtain ⟨y, G, l1, rfl⟩ := loopW_run (step := law39_CounterCuts.s2 x2 ((some (a.c, 0), some (c, 0), true, ()), R))
    (fun t G => ∃ i : Nat, i ≤ n ∧ t.2.2.1 = (i : Int) ∧ ∃ c s k, t.1 = some (c, 0) ∧ NdAt G a s ∧ CkAt G c a k ∧ I a s k (i : Int) ∧ k.n = t.2.1 ∧ k.n ≤ i ∧ Fit a s (2 * (i : Int)) ∧ s.off = false)
    (fun y _ => y = .inl ()) (fun t _ => n - t.2.2.1.toNat)
    (by
      rintro ⟨kp, v, j, u⟩ G ⟨i, hi, hj, c, s, k, hkp, hs, hk, hI, hv, hni, hf, ho⟩
      have hj : j = (i : Int) := hj
      have hkp : kp = some (c, 0) := hkp
      have hv : k.n = v := hv
      subst hj hkp hv
      have hn0 := hI.j.n0
      unfold law39_CounterCuts.s2
      rw [hn]
      by_cases hlt : i < n
      · obtain ⟨G1, s1, k1, e, w1, w2, w3, w4, w5, w6⟩ := step_any hs hk hI hf (by omega) ho (by omega) (by omega)
        have ew : (i : Int) + 1 = ((i + 1 : Nat) : Int) := by omega
        have ed : 2 * (i : Int) + 2 = 2 * ((i + 1 : Nat) : Int) := by omega
        have v1 := ck_value w3
        simp only [decide_eq_true (show (i : Int) < (n : Int) by omega), cond_t, w1, bind_some, wrap_succ (show i < 9223372036854775807 by omega)]
        rcases w6 with ⟨rfl, g1, g2, g3⟩ | ⟨rfl, g1, g2, g3, g4⟩
        · have en : IntKind.wrap .i64 (k.n + 1) = k.n + 1 := wrap_i64 (by omega) (by omega)
          have d51 : decide ((0 : Int) = 51) = false := rfl
          rw [g2] at v1
          simp only [decide_true, cond_t, bind_some, Bool.not_true, cond_f, en, v1, sum0, d51, Bool.not_false, Round]
          refine ⟨⟨i + 1, by omega, rfl, c, s1, k1, rfl, w2, w3, by rw [← ew]; exact g1, g2, by omega, by rw [← ed]; exact w4, g3⟩, by simp; omega⟩
        · have d0 : decide ((51 : Int) = 0) = false := rfl
          rw [g2] at v1
          obtain ⟨G2, u1, u2, u3⟩ := step_dead w2 w3 (by rw [g2]; omega) g4
          have fin : ∀ n', (n' = k.n ∨ n' = k.n + 1) → J a s1 n' ((i : Int) + 1) → Round (fun t H' => (∃ i : Nat, i ≤ n ∧ t.2.2.1 = (i : Int) ∧ ∃ c s k, t.1 = some (c, 0) ∧ NdAt H' a s ∧ CkAt H' c a k ∧ I a s k (i : Int) ∧ k.n = t.2.1 ∧ k.n ≤ i ∧ Fit a s (2 * (i : Int)) ∧ s.off = false) ∧ n - t.2.2.1.toNat < n - (i : Int).toNat) (fun y _ => y = .inl ())
              ((loopW (law39_CounterCuts.s1 ((some (a.c, 0), some (c, 0), true, ()), R)) (none, 51, 0, ()) G2).bind fun (p19 : (Ptr × Int × Unit) × Heap) =>
                (cond (!decide (p19.1.2.1 = 0)) (some (Sum.inr (false, ()), p19.2)) (
                  (counter_Counter_Value p19.1.1 p19.2).bind fun (r20 : ((Int × Unit) × Heap)) => cond (!decide (r20.1.1 = k.n)) (
                    (counter_Counter_Value p19.1.1 r20.2).bind fun (r21 : ((Int × Unit) × Heap)) => cond (!decide (r21.1.1 = (IntKind.wrap .i64 (k.n + 1)))) (some (Sum.inr (false, ()), r21.2)) (some (Sum.inl (()), r21.2))) (some (Sum.inl (()), r20.2))) : Option (((Unit) ⊕ (Bool × Unit)) × Heap)).bind fun (p22 : ((Unit) ⊕ (Bool × Unit)) × Heap) =>
                Sum.elim (fun (y23 : (Unit)) => (counter_Counter_Value p19.1.1 p22.2).bind fun (r24 : ((Int × Unit) × Heap)) => some ((Sum.inl (p19.1.1, r24.1.1, ((i + 1 : Nat) : Int), ()) : (Ptr × Int × Int × Unit) ⊕ (Unit ⊕ (Bool × Unit))), r24.2)) (fun (z25 : (Bool × Unit)) => some (Sum.inr (Sum.inr (z25.1, ())), p22.2)) p22.1) := by
            intro n' hn' hj
            obtain ⟨G3, c3, s3, k3, x1, x2, x3, x4, x5, x6, x7, x8, x9⟩ := reopen (R := ((some (a.c, 0), some (c, 0), true, ()), R)) rfl u2 w4 (by omega) (by omega) hj
            have v3 := ck_value x3
            rw [x5] at v3
            have en : IntKind.wrap .i64 (k.n + 1) = k.n + 1 := wrap_i64 (by omega) (by omega)
            have good : Round (fun t H' => (∃ i : Nat, i ≤ n ∧ t.2.2.1 = (i : Int) ∧ ∃ c s k, t.1 = some (c, 0) ∧ NdAt H' a s ∧ CkAt H' c a k ∧ I a s k (i : Int) ∧ k.n = t.2.1 ∧ k.n ≤ i ∧ Fit a s (2 * (i : Int)) ∧ s.off = false) ∧ n - t.2.2.1.toNat < n - (i : Int).toNat) (fun y _ => y = .inl ()) (some ((Sum.inl (some (c3, 0), n', ((i + 1 : Nat) : Int), ()) : (Ptr × Int × Int × Unit) ⊕ (Unit ⊕ (Bool × Unit))), G3)) :=
              ⟨⟨i + 1, by omega, rfl, c3, s3, k3, rfl, x2, x3, by rw [← ew]; exact x4, x5, by rw [x5]; omega, by rw [← ed]; exact x7, x6⟩, by simp; omega⟩
            simp only [x1, bind_some, decide_true, Bool.not_true, cond_f, v3]
            rcases hn' with rfl | rfl
            · simp only [decide_true, Bool.not_true, cond_f, bind_some, sum0, v3]
              exact good
            · have dn : decide (k.n + 1 = k.n) = false := decide_eq_false (by omega)
              simp only [dn, Bool.not_false, cond_t, v3, bind_some, en, decide_true, Bool.not_true, cond_f, sum0]
              exact good
          simp only [d0, Bool.not_false, cond_t, cond_f, bind_some, decide_true, Bool.not_true, v1, sum0, u1]
          rcases g1 with g1 | g1
          · exact fin k.n (.inl rfl) g1
          · exact fin (k.n + 1) (.inr rfl) g1
      · simp only [decide_eq_false (show ¬ (i : Int) < (n : Int) by omega), cond_f, Round]) (some (c, 0), 0, 0, ()) R ⟨0, by omega, rfl, c, _, _, rfl, b2, b3, b4, b5, by rw [b5]; decide, b6, rfl⟩
  refine ⟨G, ?_⟩
  have l1' : loopW (law39_CounterCuts.s2 x2 ((some (a.c, 0), some (c, 0), true, ()), R)) (some (c, 0), 0, 0, ()) R = some (.inl (), G) := l1
  simp only [q1, r1, bind_some, em, s1', eg, b1, awake39, Bool.not_true, cond_f, l1', sum0]
end Ev
