/- CounterTurns in plain Lean. -/
import Derived.Test.YtdjmipkijimajaaSLaw39c
namespace Ev
open Go (IntKind)

/-- How often both blocks were erased, by the number. -/
def Tn (a : NdA) (s : Nd) (k : Ck) : Prop :=
  (k.n = 0 ∧ s.worn 0 = 0 ∧ s.worn 1 = 0 ∧ k.turn = 0) ∨
  ∃ e : Nat, k.n = ((e * a.P + k.next : Nat) : Int) ∧ 1 ≤ k.next ∧ k.next ≤ a.P ∧ s.worn 0 + s.worn 1 = (e : Int) + 1 ∧ (k.turn = 1 → s.worn 1 = s.worn 0 + 1) ∧ (k.turn = 0 → s.worn 0 = s.worn 1)

theorem turns_step {a : NdA} {s : Nd} {k : Ck} {W : Int} (i : I a s k W) (hc : s.cuts = []) (hP : 1 ≤ a.P) (t : Tn a s k) : Tn a (k.raise a s (k.n + 1)).2.1 { (k.raise a s (k.n + 1)).2.2 with dead := false } := by
  have hc0 := cutNow_nil hc
  have he : (s.erased a k.other).cutNow = none := cutNow_nil (by unfold Nd.erased; rw [hc0]; exact hc)
  have ht := i.turn
  have hnx := i.next
  unfold Ck.raise Ck.over
  rw [hc0, he]
  by_cases hA : k.next < a.P ∧ 0 < k.n
  · rw [if_pos hA]
    simp only [Option.isSome_none, Bool.false_eq_true, if_false]
    right
    rcases t with ⟨t1, _⟩ | ⟨e, t1, t2, t3, t4, t5, t6⟩
    · omega
    · exact ⟨e, by show k.n + 1 = ((e * a.P + (k.next + 1) : Nat) : Int); rw [t1]; omega, by show 1 ≤ k.next + 1; omega, by show k.next + 1 ≤ a.P; omega, t4, t5, t6⟩
  · rw [if_neg hA]
    simp only [Option.isSome_none, Bool.false_eq_true, if_false]
    have hw : ((s.erased a k.other).wrote a k.other 0 (frm a (k.n + 1) (k.w k.other + 1))).worn = upd s.worn k.other (s.worn k.other + 1) := by
      unfold Nd.erased; rw [hc0]; rfl
    right
    rcases t with ⟨t1, t2, t3, t4⟩ | ⟨e, t1, t2, t3, t4, t5, t6⟩
    · have ho : k.other = 1 := by unfold Ck.other; omega
      refine ⟨0, by show k.n + 1 = ((0 * a.P + 1 : Nat) : Int); rw [t1]; simp, Nat.le_refl 1, hP, ?_, fun _ => ?_, fun h => ?_⟩
      · rw [hw, ho]; simp [upd, t2, t3]
      · rw [hw, ho]; simp [upd, t2, t3]
      · have h : k.other = 0 := h
        omega
    · have hn : k.next = a.P := by
        have : 0 < k.n := by rw [t1]; omega
        have : ¬ k.next < a.P := fun h => hA ⟨h, this⟩
        omega
      have hm : (e + 1) * a.P = e * a.P + a.P := Nat.succ_mul e a.P
      refine ⟨e + 1, by show k.n + 1 = (((e + 1) * a.P + 1 : Nat) : Int); rw [t1, hm, hn]; omega, Nat.le_refl 1, hP, ?_, fun h => ?_, fun h => ?_⟩
      · rw [hw]
        have : k.other = 0 ∨ k.other = 1 := by unfold Ck.other; omega
        rcases this with h | h <;> rw [h] <;> simp [upd] <;> omega
      · have h : k.other = 1 := h
        have h0 : k.turn = 0 := by unfold Ck.other at h; omega
        have := t6 h0
        rw [hw, h]; simp [upd]; omega
      · have h : k.other = 0 := h
        have h0 : k.turn = 1 := by unfold Ck.other at h; omega
        have := t5 h0
        rw [hw, h]; simp [upd]; omega

theorem new_turn {a : NdA} (f : Fit a (Nd.new [] [] []) 0) : (openK a (Nd.new [] [] [])).turn = 0 := by
  have none : ∀ b q, nums a (Nd.new [] [] []) b q = .none := fun b q => nums_full (show (Nd.new [] [] []).read a b q = fullP a from if_pos rfl)
  have lk := fun b => look_lk f.fine b (Int.le_refl 0) a.P fun q m w _ h => by rw [none] at h; cases h
  have hi : ∀ b, (lookS a (Nd.new [] [] []) b a.P).2.2.2.1 = false := by
    intro b
    cases h : (lookS a (Nd.new [] [] []) b a.P).2.2.2.1 with
    | false => rfl
    | true =>
      obtain ⟨q, w, _, h2⟩ := (lk b).is h
      rw [none] at h2; cases h2
  simp [openK, pickY, hi]

theorem CounterTurns_true (x0 : Geo) (x1 : Int) (_ : ∀ c ∈ Tup.mk [.int .i64, .int .i64, .int .i64] x0, wfC c) (_ : wfC (.int .i64 x1)) : law39_CounterTurns x0 x1 = some (true, ()) := by
  unfold law39_CounterTurns law39_CounterTurns.on
  let gB : Blk := .cells [.int .i64 x0.1, .int .i64 x0.2.1, .int .i64 x0.2.2.1] .exact
  have r1 := rd_geo (H := [gB]) (k := 0) (g := x0) (bk := .exact) rfl
  have q1 : ([] : Heap) ++ [Blk.cells [.int .i64 x0.1, .int .i64 x0.2.1, .int .i64 x0.2.2.1] .exact] = [gB] := rfl
  obtain ⟨R, a, c, b1, b2, b3, b4, b5, b6, b7, b8, b9, bB, bP, bP2⟩ := begun_eq (H := [gB]) (cuts := []) x0 (Row.ni _ 3 0) (by decide) (fun x hx => by cases hx)
  have eg : (x0.1, x0.2.1, x0.2.2.1, ()) = x0 := rfl
  have m1 := and_ones (k := .i64) (x := x1) (m := 255) 8 (by decide) (by decide)
  obtain ⟨n, hn, hn1⟩ : ∃ n : Nat, bitsI .and .i64 x1 255 = (n : Int) ∧ n ≤ 255 := ⟨_, (Int.toNat_of_nonneg m1.1).symm, by omega⟩
  obtain ⟨y, G, l1, rfl, s, k, l2, l3, l4, l5⟩ := loopW_run (step := law39_CounterTurns.s1 x1 ((some (a.c, 0), some (c, 0), true, ()), R))
    (fun t G => ∃ i : Nat, i ≤ n ∧ t.1 = ((i + 1 : Nat) : Int) ∧ ∃ s k, NdAt G a s ∧ CkAt G c a k ∧ I a s k (i : Int) ∧ k.n = (i : Int) ∧ Fit a s (2 * (i : Int)) ∧ s.off = false ∧ s.cuts = [] ∧ Tn a s k)
    (fun y G => y = .inl () ∧ ∃ s k, NdAt G a s ∧ k.n = (n : Int) ∧ Tn a s k ∧ k.turn < 2) (fun t _ => n + 1 - t.1.toNat)
    (by
      rintro ⟨j, u⟩ G ⟨i, hi, hj, s, k, hs, hk, hI, hnn, hf, ho, hcu, hT⟩
      have hj : j = ((i + 1 : Nat) : Int) := hj
      subst hj
      unfold law39_CounterTurns.s1
      rw [hn]
      by_cases hlt : i < n
      · obtain ⟨G', k', w1, w2, w3, w4, w5, w6, w7, w8, w9, w10⟩ := step_calm hs hk hI hf (by omega) ho hcu (by omega) (by omega)
        have hT' := turns_step hI hcu (by omega) hT
        rw [← w5] at hT'
        have v := ck_value w3
        rw [w6, hnn] at v
        have ew : (i : Int) + 1 = ((i + 1 : Nat) : Int) := by omega
        have ed : 2 * (i : Int) + 2 = 2 * ((i + 1 : Nat) : Int) := by omega
        have es : IntKind.wrap .i64 (((i + 1 : Nat) : Int) + 1) = ((i + 1 + 1 : Nat) : Int) := wrap_succ (by omega)
        rw [ew] at v w4
        rw [ed] at w8
        simp only [decide_eq_true (show ((i + 1 : Nat) : Int) ≤ (n : Int) by omega), cond_t, w1, bind_some, decide_true, Bool.not_true, cond_f, v, es, Round]
        exact ⟨⟨i + 1, hlt, rfl, _, k', w2, w3, w4, by rw [w6, hnn]; omega, w8, w7, w9, hT'⟩, by simp; omega⟩
      · have : i = n := by omega
        subst this
        simp only [decide_eq_false (show ¬ ((i + 1 : Nat) : Int) ≤ (i : Int) by omega), cond_f, Round]
        exact ⟨trivial, s, k, hs, hnn, hT, hI.turn⟩) (1, ()) R ⟨0, Nat.zero_le _, rfl, _, _, b2, b3, b4, b5, b6, rfl, rfl, .inl ⟨b5, rfl, rfl, new_turn b6⟩⟩
  have l1' : loopW (law39_CounterTurns.s1 x1 ((some (a.c, 0), some (c, 0), true, ()), R)) (1, ()) R = some (.inl (), G) := l1
  obtain ⟨t, G2, d1, d2, d3, d4⟩ := nand_worn l2
  have dl := d2.len
  rw [arrC_length (fun _ => rfl) (es := 1)] at dl
  have cell : ∀ {G' : Heap} (j : Nat), j < 2 → Row G' 1 t (arrC a.B fun i => [.int .i64 (s.worn i)]) → ∃ b o, t.p = some (b, o) ∧ Sl.at 1 t (j : Int) = some (b, o + j * 1) ∧ rdI .i64 G' b (o + j * 1) = some (s.worn j) := by
    intro G' j hj hr
    obtain ⟨b, o, hp, x1a, cs, bk, x2a, x3a, x4a⟩ := slRow_cell hr.row (i := j) (by omega) hr.nil
    have x5 := x4a 0 (by decide)
    rw [arrC_get (fun _ => rfl) (es := 1) (by decide) (by omega)] at x5
    exact ⟨b, o, hp, x1a, rdI_of x2a (by rw [Nat.add_zero] at x5; rw [x5]; rfl)⟩
  obtain ⟨G3, g1, g2, g3⟩ := nand_geometry d3
  have d5 := d2.keep g3 fun _ _ _ => id
  obtain ⟨u0, o0, hp0, a0, r0⟩ := cell 0 (by decide) d2
  obtain ⟨u1, o1, hp1, a1, r1'⟩ := cell 1 (by decide) d2
  obtain ⟨u2, o2, hp2, a2, r2⟩ := cell 0 (by decide) d5
  obtain ⟨u3, o3, hp3, a3, r3⟩ := cell 1 (by decide) d5
  rw [hp0] at hp1 hp2 hp3
  cases hp1; cases hp2; cases hp3
  have a0' : Sl.at 1 t 0 = some (u0, o0 + 0 * 1) := a0
  have a1' : Sl.at 1 t 1 = some (u0, o0 + 1 * 1) := a1
  -- the plain sum
  have key : -1 ≤ s.worn 0 - s.worn 1 ∧ s.worn 0 - s.worn 1 ≤ 1 ∧ (s.worn 0 + s.worn 1 - 2) * (a.P : Int) ≤ (n : Int) ∧ 0 ≤ s.worn 0 + s.worn 1 ∧ s.worn 0 + s.worn 1 ≤ 300 ∧ -300 ≤ s.worn 0 - s.worn 1 := by
    rcases l4 with ⟨t1, t2, t3, t4⟩ | ⟨e, t1, t2, t3, t4, t5, t6⟩
    · rw [t2, t3]
      refine ⟨by decide, by decide, by omega, by decide, by decide, by decide⟩
    · have hen : e ≤ n := by
        have : e * 1 ≤ e * a.P := Nat.mul_le_mul_left e (by omega)
        rw [l3] at t1; omega
      have hm : (s.worn 0 + s.worn 1 - 2) * (a.P : Int) = ((e * a.P : Nat) : Int) - (a.P : Int) := by
        rw [t4, show (e : Int) + 1 - 2 = (e : Int) - 1 by omega, Int.sub_mul, Int.one_mul, Int.natCast_mul]
      have hd : k.turn = 0 ∨ k.turn = 1 := by omega
      rw [hm]
      rw [l3] at t1
      rcases hd with h | h
      · have := t6 h; omega
      · have := t5 h; omega
  obtain ⟨k1, k2, k3, k4, k5, k6⟩ := key
  have wd : IntKind.wrap .i64 (s.worn 0 - s.worn 1) = s.worn 0 - s.worn 1 := wrap_i64 (by omega) (by omega)
  have ws : IntKind.wrap .i64 (s.worn 0 + s.worn 1) = s.worn 0 + s.worn 1 := wrap_i64 (by omega) (by omega)
  have ws2 : IntKind.wrap .i64 (s.worn 0 + s.worn 1 - 2) = s.worn 0 + s.worn 1 - 2 := wrap_i64 (by omega) (by omega)
  have hlow : -22 ≤ (s.worn 0 + s.worn 1 - 2) * (a.P : Int) := by
    have h1 : (-2 : Int) * (a.P : Int) ≤ (s.worn 0 + s.worn 1 - 2) * (a.P : Int) := Int.mul_le_mul_of_nonneg_right (by omega) (by omega)
    omega
  have wp : IntKind.wrap .i64 ((s.worn 0 + s.worn 1 - 2) * (a.P : Int)) = (s.worn 0 + s.worn 1 - 2) * (a.P : Int) := wrap_i64 (by omega) (by omega)
  simp only [q1, List.length_nil, r1, bind_some, eg, b1, awake39, Bool.not_true, cond_f, l1', sum0, d1, a0', a1', r0, r1', wd, decide_eq_true k1, decide_eq_true k2, cond_t, g1, r2, r3, if_true, ws, ws2, wp, hn, decide_eq_true k3]
end Ev
