/- LifePlays, round by round. -/
import Derived.Test.YtnndecgjcgpmbaaS10p
namespace Ev
open Go (IntKind)

section
variable {n : Nat} {k : Int} {bl ba bi : Nat} {H0 : Heap}

/-- The told numbers are written after the life's own. -/
theorem Plays.tell {l l' : Lf} {H H' : Heap} (h : Plays n k bl ba bi H0 l H) (hb : H0.length ≤ bl) (ha : H0.length ≤ ba) (hi : H0.length ≤ bi) (h1 : bi ≠ bl) (h2 : bi ≠ ba) (q1 : LifeAt H' bl ba l') (q2 : Ok n k l') (f : Fr bl ba H H')
    {i : Nat} {v : Int} (hv : 0 ≤ v ∧ v ≤ 3) (hil : i < l.xs.length) (hx : l'.xs = l.xs.set i v) :
    ∃ H2, wr H' bi i [.int .i64 v] = some H2 ∧ Plays n k bl ba bi H0 l' H2 := by
  have his : H'[bi]? = some (.cells l.row .exact) := by rw [f.same bi h1 h2]; exact h.is
  have hlt : bi < H'.length := (List.getElem?_eq_some_iff.1 his).1
  refine ⟨_, wr1_of his (by decide) (by simpa [Lf.row] using hil), q1.other h1 h2, q2, ?_, ?_, ?_⟩
  · intro j hj
    rw [set_get' (by omega)]
    exact (h.pre.fr hb ha f) j hj
  · rw [set_get hlt]
    simp [Lf.row, hx, List.map_set]
  · intro x hxm
    rw [hx] at hxm
    rcases List.mem_or_eq_of_mem_set hxm with hm | hm
    · exact h.small x hm
    · rw [hm]; exact hv

/-- .. or nothing is written. -/
theorem Plays.still {l l' : Lf} {H H' : Heap} (h : Plays n k bl ba bi H0 l H) (hb : H0.length ≤ bl) (ha : H0.length ≤ ba) (h1 : bi ≠ bl) (h2 : bi ≠ ba) (q1 : LifeAt H' bl ba l') (q2 : Ok n k l') (f : Fr bl ba H H') (hx : l'.xs = l.xs) : Plays n k bl ba bi H0 l' H' :=
  ⟨q1, q2, h.pre.fr hb ha f, by rw [f.same bi h1 h2]; simpa [Lf.row, hx] using h.is, by rw [hx]; exact h.small⟩

def PI (n : Nat) (k : Int) (bl ba bi : Nat) (H0 : Heap) (s : Int × Int × Int × Unit) (G : Heap) : Prop :=
  ∃ (i : Nat) (l : Lf), s = (l.op, l.nx, (i : Int), ()) ∧ (i : Int) ≤ 80 ∧ H0.length ≤ G.length ∧ Plays n k bl ba bi H0 l G

set_option maxRecDepth 100000 in
theorem plays_round {x0 x1 : Int} {x2 : Sl} {r1 : (Ptr × Int × Unit) × Heap} {p2 : Sl × Heap} (hr : r1.1.1 = some (bl, 0)) (hp : p2.1 = ⟨some (bi, 0), n, n⟩)
    (hN : IntKind.wrap .i64 (1 + bitsI .and .i64 x0 15) = (n : Int)) (hK : IntKind.wrap .i64 (1 + bitsI .and .i64 x1 7) = k) (hn : n < 1000) (hk : 1 ≤ k) (hk2 : k < 1000)
    (hb : H0.length ≤ bl) (ha : H0.length ≤ ba) (hi : H0.length ≤ bi) (n1 : bi ≠ bl) (n2 : bi ≠ ba) (hs : Came [.int .i64, .int .i64] [] x2 H0)
    (s : Int × Int × Int × Unit) (G : Heap) (hI : PI n k bl ba bi H0 s G) :
    Round (fun s' H' => PI n k bl ba bi H0 s' H' ∧ 80 - s'.2.2.1.toNat < 80 - s.2.2.1.toNat) (fun x _ => x = Sum.inl ()) (law10_LifePlays.s1 x0 x1 x2 r1 p2 s G) := by
  obtain ⟨i, l, rfl, hi80, hlen, h⟩ := hI
  unfold law10_LifePlays.s1
  simp only [hr, hp, hN, hK]
  by_cases hxl : (i : Int) < x2.len
  · by_cases h80 : (i : Int) < 80
    · obtain ⟨p, a, b, g1, g2, g3⟩ := (acts_of hs h.pre).get i hxl
      have hw : IntKind.wrap .i64 ((i : Int) + 1) = ((i + 1 : Nat) : Int) := by rw [wrap_i64 (by omega) (by omega)]; omega
      -- the end of each round
      have fin : ∀ {ARM : Option (((Int × Int × Unit) ⊕ (Bool × Unit)) × Heap)},
          (∃ l' G', ARM = some (Sum.inl (l'.op, l'.nx, ()), G') ∧ Plays n k bl ba bi H0 l' G' ∧ H0.length ≤ G'.length ∧ l'.xs.length = l.xs.length) →
          Round (fun s' H' => PI n k bl ba bi H0 s' H' ∧ 80 - s'.2.2.1.toNat < 80 - (i : Int).toNat) (fun x _ => x = Sum.inl ())
            (ARM.bind fun p35 => Sum.elim (fun (y36 : (Int × Int × Unit)) => (law10_same (some (bl, 0)) ⟨some (bi, 0), n, n⟩ y36.1 y36.2.1 k p35.2).bind fun (r37 : ((Bool × Unit) × Heap)) =>
              cond (!r37.1.1) (some ((Sum.inr (Sum.inr (false, ())) : (Int × Int × Int × Unit) ⊕ ((Unit) ⊕ (Bool × Unit))), r37.2)) (
              (life_Life_Is (some (bl, 0)) b r37.2).bind fun (r38 : ((Int × Unit) × Heap)) =>
              cond ((decide (r38.1.1 < 0)) == l.inn b) (some (Sum.inr (Sum.inr (false, ())), r38.2)) (some (Sum.inl (y36.1, y36.2.1, ((i + 1 : Nat) : Int), ()), r38.2)))) (fun (z39 : (Bool × Unit)) => some (Sum.inr (Sum.inr (z39.1, ())), p35.2)) p35.1) := by
        rintro ARM ⟨l', G', rfl, hp, hg, hlx⟩
        simp only [bind_some, Sum.elim_inl]
        rw [same_eq hp hn hk hk2 hg]
        have hgr := hp.grow hg [blk4 l'.xs]
        have hinn : l'.inn b = l.inn b := by unfold Lf.inn; rw [hlx]
        simp only [bind_some, Bool.not_true, cond_f]
        have last : Round (fun s' H' => PI n k bl ba bi H0 s' H' ∧ 80 - s'.2.2.1.toNat < 80 - (i : Int).toNat) (fun x _ => x = Sum.inl ()) (some ((Sum.inl (l'.op, l'.nx, ((i + 1 : Nat) : Int), ()) : (Int × Int × Int × Unit) ⊕ ((Unit) ⊕ (Bool × Unit))), G' ++ [blk4 l'.xs])) :=
          ⟨⟨i + 1, l', rfl, by omega, by rw [List.length_append]; omega, hgr⟩, by simp; omega⟩
        cases hib : l.inn b with
        | false =>
          rw [is_out hgr.at' (by rw [hinn]; exact hib)]
          exact last
        | true =>
          obtain ⟨b0, b1, v, hv⟩ := inn_spec (l := l') (by rw [hinn]; exact hib)
          rw [is_in hgr.at' (by rw [hinn]; exact hib) hv]
          have := (hgr.small v (List.mem_of_getElem? hv)).1
          have hd : decide (v < 0) = false := decide_eq_false (by omega)
          simp only [bind_some, hd]
          exact last
      -- what is told of the place
      have rdi : ∀ {v : Int}, l.xs[b.toNat]? = some v → rdI .i64 G bi b.toNat = some v := fun hv => rdI_of h.is (by simp [Lf.row, hv])
      have hnn : n = l.xs.length := h.ok.len.symm
      have hat : l.inn b = true → Sl.at 1 ⟨some (bi, 0), n, n⟩ b = some (bi, b.toNat) := by
        intro hib
        obtain ⟨b0, b1, _⟩ := inn_spec hib
        rw [at_of b0 (by omega)]; simp
      have e8 : ((cond (decide (0 ≤ b)) (some (((decide (b < (n : Int))), ()), G)) (some ((false, ()), G))) : Option ((Bool × Unit) × Heap)) = some ((l.inn b, ()), G) := by
        unfold Lf.inn
        rw [← hnn]
        by_cases b0 : 0 ≤ b <;> simp [b0]
      simp only [hxl, decide_true, cond_t, h80, g1, bind_some, g3, e8, g2, hw]
      refine fin ?_
      clear fin
      by_cases a0 : a = 0
      · -- open
        simp only [a0, decide_true, cond_t]
        rcases open_any h.at' h.ok hk b with ⟨q, hq⟩ | ⟨hop, hib, hz, _⟩
        · have e13 : ((cond (l.inn b) (
              (Sl.at 1 ⟨some (bi, 0), n, n⟩ b).bind fun (a11 : (Nat × Nat)) =>
              (rdI .i64 G a11.1 a11.2).bind fun (v12 : Int) =>
              cond (decide (v12 = 0)) (some (((decide (l.op < 0)), ()), G)) (some ((false, ()), G))) (some ((false, ()), G)) : Option ((Bool × Unit) × Heap))) = some ((false, ()), G) := by
            cases hib : l.inn b with
            | false => rfl
            | true =>
              obtain ⟨b0, b1, v, hv⟩ := inn_spec hib
              simp only [cond_t, hat hib, bind_some, rdi hv]
              by_cases hz : v = 0
              · subst hz
                have hno : ¬ l.op < 0 := fun hop => hq hop hib hv
                simp [hno]
              · simp [hz]
          rw [e13]
          simp only [bind_some, q, cond_f]
          exact ⟨l, G, rfl, h, hlen, rfl⟩
        · obtain ⟨H1, q1, q2, q3⟩ := open_yes h.at' hib hz hop
          have hbl : b.toNat < l.xs.length := (List.getElem?_eq_some_iff.1 hz).1
          obtain ⟨H2, w1, p1⟩ := h.tell hb ha hi n1 n2 q2 (ok_open h.ok hk hib) q3 (v := 1) (by omega) hbl rfl
          have hl2 : H0.length ≤ H2.length := by
            have := p1.at'.lb; omega
          simp only [hib, cond_t, hat hib, bind_some, rdi hz, decide_true, hop, q1, w1]
          exact ⟨_, H2, rfl, p1, hl2, by simp⟩
      · simp only [a0, decide_false, cond_f]
        by_cases a456 : a = 4 ∨ a = 5 ∨ a = 6
        · -- full, free, bad
          have e17 : ((cond (decide (a = 4)) (some (((decide (a = 4)), ()), G)) (cond (decide (a = 5)) (some (((decide (a = 5)), ()), G)) (some (((decide (a = 6)), ()), G)))) : Option ((Bool × Unit) × Heap)) = some ((true, ()), G) := by
            rcases a456 with rfl | rfl | rfl <;> rfl
          -- one of the three
          have three : ∃ what : Int, 0 ≤ what ∧ what ≤ 3 ∧ ∀ (F : (Bool × Int × Unit) × Heap → Option (((Int × Int × Unit) ⊕ (Bool × Unit)) × Heap)),
              ((cond (decide (a = 4)) (
                (life_Life_Full (some (bl, 0)) b G).bind fun (r23 : ((Bool × Unit) × Heap)) => some ((r23.1.1, 2, ()), r23.2)) (
                cond (decide (a = 5)) (
                (life_Life_Free (some (bl, 0)) b G).bind fun (r24 : ((Bool × Unit) × Heap)) => some ((r24.1.1, 0, ()), r24.2)) (
                (life_Life_Bad (some (bl, 0)) b G).bind fun (r25 : ((Bool × Unit) × Heap)) => some ((r25.1.1, 3, ()), r25.2))) : Option ((Bool × Int × Unit) × Heap)).bind F) =
              (life_Life_set (some (bl, 0)) b what G).bind fun r => F ((r.1.1, what, ()), r.2) := by
            rcases a456 with rfl | rfl | rfl
            · refine ⟨2, by omega, by omega, fun F => ?_⟩
              simp only [decide_true, cond_t, life_Life_Full]
              cases life_Life_set (some (bl, 0)) b 2 G <;> rfl
            · refine ⟨0, by omega, by omega, fun F => ?_⟩
              simp only [show decide ((5 : Int) = 4) = false from rfl, decide_true, cond_t, cond_f, life_Life_Free]
              cases life_Life_set (some (bl, 0)) b 0 G <;> rfl
            · refine ⟨3, by omega, by omega, fun F => ?_⟩
              simp only [show decide ((6 : Int) = 4) = false from rfl, show decide ((6 : Int) = 5) = false from rfl, cond_f, life_Life_Bad]
              cases life_Life_set (some (bl, 0)) b 3 G <;> rfl
          obtain ⟨what, hw0, hw3, three⟩ := three
          rw [e17]
          simp only [bind_some, cond_t]
          rcases set_any h.at' h.ok b what with ⟨q, hq⟩ | ⟨hib, ⟨v, hv, hv3⟩, H1, q1, q2, q3, q4⟩
          · have e20 : ((cond (l.inn b) (
                (Sl.at 1 ⟨some (bi, 0), n, n⟩ b).bind fun (a18 : (Nat × Nat)) =>
                (rdI .i64 G a18.1 a18.2).bind fun (v19 : Int) =>
                some (((!decide (v19 = 3)), ()), G)) (some ((false, ()), G)) : Option ((Bool × Unit) × Heap))) = some ((false, ()), G) := by
              cases hib : l.inn b with
              | false => rfl
              | true => simp [hat hib, rdi (hq hib)]
            rw [e20]
            simp only [bind_some, g2]
            rw [three]
            simp only [q, bind_some, cond_f]
            exact ⟨l, G, rfl, h, hlen, rfl⟩
          · have hbl : b.toNat < l.xs.length := (List.getElem?_eq_some_iff.1 hv).1
            obtain ⟨H2, w1, p1⟩ := h.tell hb ha hi n1 n2 q2 q3 q4 (v := what) ⟨hw0, hw3⟩ hbl rfl
            have hl2 : H0.length ≤ H2.length := by
              have := p1.at'.lb; omega
            have hd3 : decide (v = 3) = false := decide_eq_false hv3
            simp only [hib, cond_t, hat hib, bind_some, rdi hv, hd3, Bool.not_false, g2]
            rw [three]
            simp only [q1, bind_some, w1]
            by_cases ho : l.op = b
            · simp only [ho, if_true] at p1
              simp only [ho, decide_true, cond_t]
              exact ⟨_, H2, rfl, p1, hl2, by simp⟩
            · simp only [ho, if_false] at p1
              simp only [ho, decide_false, cond_f]
              exact ⟨⟨l.xs.set b.toNat what, l.pg, l.op, l.nx⟩, H2, rfl, p1, hl2, by simp⟩
        · -- take
          have e17 : ((cond (decide (a = 4)) (some (((decide (a = 4)), ()), G)) (cond (decide (a = 5)) (some (((decide (a = 5)), ()), G)) (some (((decide (a = 6)), ()), G)))) : Option ((Bool × Unit) × Heap)) = some ((false, ()), G) := by
            have h4 : ¬ a = 4 := fun hh => a456 (.inl hh)
            have h5 : ¬ a = 5 := fun hh => a456 (.inr (.inl hh))
            have h6 : ¬ a = 6 := fun hh => a456 (.inr (.inr hh))
            simp [h4, h5, h6]
          rw [e17]
          simp only [bind_some, cond_f]
          rcases take_full h.at' h.ok hk hk2 with ⟨hop, q⟩ | ⟨hop, hio, hnk, H1, q, q1, q2, q3⟩
          · have hd : decide (0 ≤ l.op) = false := decide_eq_false (by omega)
            simp only [q, bind_some, hd, cond_f]
            exact ⟨l, G, rfl, h, hlen, rfl⟩
          · have hd : decide (0 ≤ l.op) = true := decide_eq_true hop
            have hn0 := h.ok.nx0
            have hpg := h.ok.pg
            have hwx : IntKind.wrap .i64 (l.nx + 1) = l.nx + 1 := wrap_i64 (by omega) (by omega)
            have hl1 : H0.length ≤ H1.length := by
              have := q1.lb; omega
            simp only [q, bind_some, hd, cond_t, decide_true, hwx, show ((true : Bool) == true) = true from rfl, Bool.not_true, cond_f, Sum.elim_inl]
            by_cases hp1 : l.nx + 1 = k
            · have hat2 : Sl.at 1 ⟨some (bi, 0), n, n⟩ l.op = some (bi, l.op.toNat) := by
                obtain ⟨b0, b1, _⟩ := inn_spec hio
                rw [at_of b0 (by omega)]; simp
              have htk : l.taken = ⟨l.xs.set l.op.toNat 2, l.pg, -1, l.nx + 1⟩ := by unfold Lf.taken; rw [if_pos (by omega)]
              rw [htk] at q1 q2
              obtain ⟨o0, o1, _⟩ := inn_spec hio
              obtain ⟨H2, w1, p1⟩ := h.tell hb ha hi n1 n2 q1 q2 q3 (v := 2) (by omega) (i := l.op.toNat) (by omega) rfl
              have hl2 : H0.length ≤ H2.length := by
                have := p1.at'.lb; omega
              simp only [hp1, decide_true, cond_t, hat2, bind_some, w1]
              rw [hp1] at p1
              exact ⟨_, H2, rfl, p1, hl2, by simp⟩
            · have htk : l.taken = ⟨l.xs, l.pg, l.op, l.nx + 1⟩ := by unfold Lf.taken; rw [if_neg (by omega)]
              rw [htk] at q1 q2
              simp only [hp1, decide_false, cond_f]
              exact ⟨_, H1, rfl, h.still hb ha n1 n2 q1 q2 q3 rfl, hl1, rfl⟩
    · simp only [hxl, decide_true, cond_t, h80, decide_false, cond_f]
      rfl
  · simp only [hxl, decide_false, cond_f]
    rfl
end

theorem LifePlays_true (x0 x1 : Int) (s : Sl) {H : Heap} (_ : wfC (.int .i64 x0)) (_ : wfC (.int .i64 x1)) (hs : Came [.int .i64, .int .i64] [] s H) : ∃ H', law10_LifePlays x0 x1 s H = some ((true, ()), H') := by
  have b0 := bits15 x0
  have b1 := bits7 x1
  have wn : IntKind.wrap .i64 (1 + bitsI .and .i64 x0 15) = 1 + bitsI .and .i64 x0 15 := wrap_i64 (by omega) (by omega)
  have wk : IntKind.wrap .i64 (1 + bitsI .and .i64 x1 7) = 1 + bitsI .and .i64 x1 7 := wrap_i64 (by omega) (by omega)
  obtain ⟨H1, q1, a1, hlen, hpre⟩ := new_eq (n := 1 + bitsI .and .i64 x0 15) (k := 1 + bitsI .and .i64 x1 7) (by omega) (by omega) (by omega) (by omega) H
  have hn : (((1 + bitsI .and .i64 x0 15).toNat : Nat) : Int) = 1 + bitsI .and .i64 x0 15 := by omega
  generalize hN : (1 + bitsI .and .i64 x0 15).toNat = n at *
  have hrep : rep n [C.int .i64 0] = (List.replicate n 0).map (C.int .i64) := by
    unfold rep
    clear hN hn a1 q1
    induction n with
    | zero => rfl
    | succ m ih => rw [List.replicate_succ, List.flatten_cons, ih, List.replicate_succ, List.map_cons]; rfl
  have hmk : mkS H1 8 [.int .i64 0] (1 + bitsI .and .i64 x0 15) (1 + bitsI .and .i64 x0 15) = some (⟨some (H1.length, 0), n, n⟩, H1 ++ [.cells ((List.replicate n 0).map (C.int .i64)) .exact]) := by
    unfold mkS
    have : decide (0 ≤ 1 + bitsI .and .i64 x0 15 ∧ 1 + bitsI .and .i64 x0 15 ≤ 1 + bitsI .and .i64 x0 15 ∧ (1 + bitsI .and .i64 x0 15).toNat * 8 ≤ maxRow ∧ (1 + bitsI .and .i64 x0 15).toNat ≤ maxRow) = true := by
      apply decide_eq_true
      unfold maxRow
      refine ⟨by omega, by omega, by omega, by omega⟩
    rw [this, cond_t, hN, hrep]
  have lp : Plays n (1 + bitsI .and .i64 x1 7) (H.length + 1) H.length H1.length H ⟨List.replicate n 0, 1 + bitsI .and .i64 x1 7, -1, 0⟩ (H1 ++ [.cells ((List.replicate n 0).map (C.int .i64)) .exact]) :=
    ⟨a1.grow _, ⟨by simp, rfl, Int.le_refl _, by show (0 : Int) ≤ 1 + bitsI .and .i64 x1 7; omega, .inl (by show (-1 : Int) < 0; decide)⟩, fun j hj => by rw [List.getElem?_append_left (by omega)]; exact hpre j hj, by simp [Lf.row],
      fun x hx => by simp only [List.mem_replicate] at hx; omega⟩
  obtain ⟨x, G, q2, rfl⟩ := loopW_run (step := law10_LifePlays.s1 x0 x1 s ((some (H.length + 1, 0), 0, ()), H1) (⟨some (H1.length, 0), n, n⟩, H1 ++ [.cells ((List.replicate n 0).map (C.int .i64)) .exact])) (PI n (1 + bitsI .and .i64 x1 7) (H.length + 1) H.length H1.length H) (fun x _ => x = Sum.inl ()) (fun s _ => 80 - s.2.2.1.toNat)
    (fun s' G' hI => plays_round rfl rfl (by rw [wn, hn]) wk (by omega) (by omega) (by omega) (by omega) (Nat.le_refl _) (by omega) (by omega) (by omega) hs s' G' hI) (-1, 0, 0, ()) _ ⟨0, _, rfl, by omega, by rw [List.length_append]; omega, lp⟩
  refine ⟨G, ?_⟩
  unfold law10_LifePlays
  simp only [wn, wk, q1, bind_some, hmk, awake_true, Bool.not_true, cond_f, decide_true, q2, Sum.elim_inl]
end Ev
