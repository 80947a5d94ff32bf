/- LifeRoom: as many pages can be taken as there is room for, and no more. -/
import Derived.Test.YtnndecgjcgpmbaaS10b
namespace Ev
open Go (IntKind)

/-- The blocks that were there first are as they were. -/
def Pre (H0 H : Heap) : Prop := ∀ j, j < H0.length → H[j]? = H0[j]?
theorem Pre.fr {H0 H H' : Heap} {bl ba : Nat} (h : Pre H0 H) (hb : H0.length ≤ bl) (ha : H0.length ≤ ba) (f : Fr bl ba H H') : Pre H0 H' :=
  fun j hj => by rw [f.same j (by omega) (by omega), h j hj]

/-- A right life behind the blocks that were there first. -/
structure Lives (n : Nat) (k : Int) (bl ba : Nat) (H0 : Heap) (l : Lf) (H : Heap) : Prop where
  at' : LifeAt H bl ba l
  ok : Ok n k l
  pre : Pre H0 H

section
variable {n : Nat} {k : Int} {bl ba : Nat} {H0 : Heap}

theorem room_loop1 {x2 : Sl} {r1 : (Ptr × Int × Unit) × Heap} (hr : r1.1.1 = some (bl, 0)) (hk : 1 ≤ k) (hk2 : k < 1000) (hb : H0.length ≤ bl) (ha : H0.length ≤ ba) (hs : Came [.int .i64, .int .i64] [] x2 H0) {l : Lf} {H : Heap} (h0 : Lives n k bl ba H0 l H) :
    ∃ H', loopW (law10_LifeRoom.s1 x2 r1) (0, ()) H = some ((), H') ∧ ∃ l, Lives n k bl ba H0 l H' := by
  obtain ⟨x, H', h1, h2⟩ := loopW_run (step := law10_LifeRoom.s1 x2 r1) (fun s G => ∃ i : Nat, s = ((i : Int), ()) ∧ i ≤ 40 ∧ ∃ l, Lives n k bl ba H0 l G) (fun _ G => ∃ l, Lives n k bl ba H0 l G) (fun s _ => 40 - s.1.toNat)
    (by
      rintro s G ⟨i, rfl, hi, l, hl⟩
      unfold law10_LifeRoom.s1
      simp only [hr]
      by_cases hlen : (i : Int) < x2.len
      · by_cases h40 : (i : Int) < 40
        · obtain ⟨p, a, b, g1, g2, g3⟩ := (acts_of hs hl.pre).get i hlen
          have hw : IntKind.wrap .i64 ((i : Int) + 1) = ((i + 1 : Nat) : Int) := by rw [wrap_i64 (by omega) (by omega)]; omega
          have next : ∀ {G' : Heap} {l' : Lf}, Lives n k bl ba H0 l' G' → Round (fun s' H' => (∃ i : Nat, s' = ((i : Int), ()) ∧ i ≤ 40 ∧ ∃ l, Lives n k bl ba H0 l H') ∧ 40 - s'.1.toNat < 40 - (i : Int).toNat) (fun _ G => ∃ l, Lives n k bl ba H0 l G) (some ((Sum.inl (((i + 1 : Nat) : Int), ()) : (Int × Unit) ⊕ Unit), G')) :=
            fun {G'} {l'} h => ⟨⟨i + 1, rfl, by omega, l', h⟩, by simp; omega⟩
          simp only [hlen, decide_true, cond_t, h40, g1, bind_some, g2, g3, hw]
          by_cases a0 : a = 0
          · simp only [a0, decide_true, cond_t]
            rcases open_any hl.at' hl.ok hk b with ⟨q, _⟩ | ⟨_, _, _, G', l', q, q1, q2, q3, _⟩
            · rw [q]; exact next hl
            · rw [q]; exact next ⟨q1, q2, hl.pre.fr hb ha q3⟩
          · simp only [a0, decide_false, cond_f]
            by_cases a4 : a = 4
            · simp only [a4, decide_true, cond_t, life_Life_Full]
              rcases set_any hl.at' hl.ok b 2 with ⟨q, _⟩ | ⟨_, _, G', q, q1, q2, q3⟩
              · rw [q]; exact next hl
              · rw [q]; exact next ⟨q1, q2, hl.pre.fr hb ha q3⟩
            · simp only [a4, decide_false, cond_f]
              by_cases a6 : a = 6
              · simp only [a6, decide_true, cond_t, life_Life_Bad]
                rcases set_any hl.at' hl.ok b 3 with ⟨q, _⟩ | ⟨_, _, G', q, q1, q2, q3⟩
                · rw [q]; exact next hl
                · rw [q]; exact next ⟨q1, q2, hl.pre.fr hb ha q3⟩
              · simp only [a6, decide_false, cond_f]
                rcases take_any hl.at' hl.ok hk hk2 with ⟨_, q⟩ | ⟨_, G', l', q, q1, q2, q3, _⟩
                · rw [q]; exact next hl
                · rw [q]; exact next ⟨q1, q2, hl.pre.fr hb ha q3⟩
        · simp only [hlen, decide_true, cond_t, h40, decide_false, cond_f]
          exact ⟨l, hl⟩
      · simp only [hlen, decide_false, cond_f]
        exact ⟨l, hl⟩) (0, ()) H ⟨0, rfl, by omega, l, h0⟩
  exact ⟨H', h1, h2⟩

/-- All blocks are tried: one is opened, or none is free. -/
theorem room_loop2 {x0 : Int} {r1 : (Ptr × Int × Unit) × Heap} (hr : r1.1.1 = some (bl, 0)) (hn : IntKind.wrap .i64 (1 + bitsI .and .i64 x0 15) = (n : Int)) (hn2 : n < 1000) (hk : 1 ≤ k) (hb : H0.length ≤ bl) (ha : H0.length ≤ ba) {l : Lf} {H : Heap} (h0 : Lives n k bl ba H0 l H) (ho : l.op < 0) :
    ∃ H', loopW (law10_LifeRoom.s2 x0 r1) (0, ()) H = some ((), H') ∧ ∃ l', Lives n k bl ba H0 l' H' ∧ l'.room = l.room ∧ (0 ≤ l'.op ∨ l'.room = 0) := by
  obtain ⟨x, H', h1, h2⟩ := loopW_run (step := law10_LifeRoom.s2 x0 r1) (fun s G => ∃ i : Nat, s = ((i : Int), ()) ∧ i ≤ n ∧ G = H ∧ ∀ j, j < i → l.xs[j]? ≠ some 0) (fun _ G => ∃ l', Lives n k bl ba H0 l' G ∧ l'.room = l.room ∧ (0 ≤ l'.op ∨ l'.room = 0)) (fun s _ => n - s.1.toNat)
    (by
      rintro s G ⟨i, rfl, hi, rfl, hno⟩
      unfold law10_LifeRoom.s2
      simp only [hr, hn]
      by_cases hlen : (i : Int) < (n : Int)
      · have hw : IntKind.wrap .i64 ((i : Int) + 1) = ((i + 1 : Nat) : Int) := by rw [wrap_i64 (by omega) (by omega)]; omega
        simp only [hlen, decide_true, cond_t, hw]
        rcases open_any h0.at' h0.ok hk i with ⟨q, hq⟩ | ⟨_, _, _, G', l', q, q1, q2, q3, q4, q5⟩
        · rw [q]
          refine ⟨⟨i + 1, rfl, by omega, rfl, ?_⟩, by simp; omega⟩
          intro j hj
          by_cases hji : j = i
          · subst hji
            have := hq ho (by unfold Lf.inn; rw [h0.ok.len]; exact decide_eq_true ⟨by omega, by omega⟩)
            simpa using this
          · exact hno j (by omega)
        · rw [q]
          exact ⟨l', ⟨q1, q2, h0.pre.fr hb ha q3⟩, q4, .inl q5⟩
      · simp only [hlen, decide_false, cond_f]
        refine ⟨l, h0, rfl, .inr ?_⟩
        have hc : cnt l.xs 0 = 0 := by
          unfold cnt
          rw [List.length_eq_zero_iff, List.filter_eq_nil_iff]
          intro a ha
          obtain ⟨j, hj⟩ := List.mem_iff_getElem?.1 ha
          have hjl := (List.getElem?_eq_some_iff.1 hj).1
          have := hno j (by have := h0.ok.len; omega)
          rw [hj] at this
          simpa using this
        unfold Lf.room
        rw [hc, if_neg (by omega)]; simp) (0, ()) H ⟨0, rfl, Nat.zero_le _, rfl, fun j hj => absurd hj (Nat.not_lt_zero _)⟩
  exact ⟨H', h1, h2⟩

set_option maxRecDepth 100000 in
theorem room_loop3 {x0 : Int} {r1 : (Ptr × Int × Unit) × Heap} (hr : r1.1.1 = some (bl, 0)) (hn : IntKind.wrap .i64 (1 + bitsI .and .i64 x0 15) = (n : Int)) (hn2 : n < 1000) (hk : 1 ≤ k) (hk2 : k < 1000) (hb : H0.length ≤ bl) (ha : H0.length ≤ ba) {l : Lf} {H : Heap} (h0 : Lives n k bl ba H0 l H) (hroom : l.room < 200) :
    ∃ H', loopW (law10_LifeRoom.s3 x0 r1) (0, 0, ()) H = some ((l.room, ()), H') ∧ ∃ l', Lives n k bl ba H0 l' H' ∧ l'.room = 0 := by
  obtain ⟨x, H', h1, rfl, h2⟩ := loopW_run (step := law10_LifeRoom.s3 x0 r1) (fun s G => ∃ i : Nat, s = ((i : Int), (i : Int), ()) ∧ (i : Int) ≤ 200 ∧ ∃ l', Lives n k bl ba H0 l' G ∧ (i : Int) + l'.room = l.room) (fun x G => x = (l.room, ()) ∧ ∃ l', Lives n k bl ba H0 l' G ∧ l'.room = 0) (fun s _ => 200 - s.2.1.toNat)
    (by
      rintro s G ⟨i, rfl, hi, l1, hl, hsum⟩
      have hr0 := (hl.ok.room (by omega)).1
      have h200 : (i : Int) < 200 := by omega
      have hw : IntKind.wrap .i64 ((i : Int) + 1) = ((i + 1 : Nat) : Int) := by rw [wrap_i64 (by omega) (by omega)]; omega
      unfold law10_LifeRoom.s3
      simp only [hr, h200, decide_true, cond_t, hw]
      -- then: taken, or nothing
      have last : ∀ {G1 : Heap} {l2 : Lf}, Lives n k bl ba H0 l2 G1 → l2.room = l1.room → (0 ≤ l2.op ∨ l2.room = 0) →
          Round (fun s' H' => (∃ i : Nat, s' = ((i : Int), (i : Int), ()) ∧ (i : Int) ≤ 200 ∧ ∃ l', Lives n k bl ba H0 l' H' ∧ (i : Int) + l'.room = l.room) ∧ 200 - s'.2.1.toNat < 200 - (i : Int).toNat) (fun x G => x = (l.room, ()) ∧ ∃ l', Lives n k bl ba H0 l' G ∧ l'.room = 0)
            ((life_Life_Take (some (bl, 0)) G1).bind fun (r27 : ((Int × Int × Bool × Unit) × Heap)) => cond (!r27.1.2.2.1) (some ((Sum.inr ((i : Int), ()) : (Int × Int × Unit) ⊕ (Int × Unit)), r27.2)) (some (Sum.inl (((i + 1 : Nat) : Int), ((i + 1 : Nat) : Int), ()), r27.2))) := by
        intro G1 l2 h2 hroom2 hor
        rcases take_any h2.at' h2.ok hk hk2 with ⟨hop, q⟩ | ⟨hop, G', l', q, q1, q2, q3, q4⟩
        · rw [q]
          have hz : l2.room = 0 := by
            rcases hor with h | h
            · omega
            · exact h
          exact ⟨by show ((i : Int), ()) = (l.room, ()); rw [show (i : Int) = l.room by omega], l2, h2, hz⟩
        · rw [q]
          refine ⟨⟨i + 1, rfl, by omega, l', ⟨q1, q2, h2.pre.fr hb ha q3⟩, by omega⟩, by simp; omega⟩
      by_cases ho : 0 ≤ l1.op
      · rw [at_yes hl.at' ho]
        simp only [bind_some, Bool.not_true, cond_f]
        exact last hl rfl (.inl ho)
      · rw [at_no hl.at' (by omega)]
        obtain ⟨G1, q1, l2, q2, q3, q4⟩ := room_loop2 (x0 := x0) hr hn hn2 hk hb ha hl (by omega)
        simp only [bind_some, Bool.not_false, cond_t, q1]
        exact last q2 q3 q4) (0, 0, ()) H ⟨0, rfl, by omega, l, h0, by simp⟩
  exact ⟨H', h1, h2⟩

end

theorem LifeRoom_true (x0 x1 : Int) (s : Sl) {H : Heap} (_ : wfC (.int .i64 x0)) (_ : wfC (.int .i64 x1)) (hs : Came [.int .i64, .int .i64] [] s H) : ∃ H', law10_LifeRoom x0 x1 s H = some ((true, ()), H') := by
  have b0 := bits15 x0
  have b1 := bits7 x1
  have wn : IntKind.wrap .i64 (1 + bitsI .and .i64 x0 15) = 1 + bitsI .and .i64 x0 15 := wrap_i64 (by omega) (by omega)
  have wk : IntKind.wrap .i64 (1 + bitsI .and .i64 x1 7) = 1 + bitsI .and .i64 x1 7 := wrap_i64 (by omega) (by omega)
  obtain ⟨H1, q1, a1, hlen, hpre⟩ := new_eq (n := 1 + bitsI .and .i64 x0 15) (k := 1 + bitsI .and .i64 x1 7) (by omega) (by omega) (by omega) (by omega) H
  generalize hk : 1 + bitsI .and .i64 x1 7 = k at *
  have hn : (((1 + bitsI .and .i64 x0 15).toNat : Nat) : Int) = 1 + bitsI .and .i64 x0 15 := by omega
  generalize hN : (1 + bitsI .and .i64 x0 15).toNat = n at *
  have lv : Lives n k (H.length + 1) H.length H ⟨List.replicate n 0, k, -1, 0⟩ H1 := ⟨a1, ⟨by simp, rfl, Int.le_refl _, by show (0 : Int) ≤ k; omega, .inl (by show (-1 : Int) < 0; decide)⟩, hpre⟩
  obtain ⟨H2, q2, l2, lv2⟩ := room_loop1 (r1 := ((some (H.length + 1, 0), 0, ()), H1)) rfl (by omega) (by omega) (by omega) (Nat.le_refl _) hs lv
  have q3 := room_eq lv2.at' (by rw [lv2.ok.len]; omega) (by rw [lv2.ok.pg]; omega) (by rw [lv2.ok.pg]; omega) ⟨lv2.ok.nx0, by rw [lv2.ok.pg]; exact lv2.ok.nx1⟩
  have hr := (lv2.ok.room (by omega)).2
  have hr2 : (n : Int) * k ≤ 16 * 8 := Int.mul_le_mul (by omega) (by omega) (by omega) (by omega)
  obtain ⟨H3, q4, l3, lv3, hz⟩ := room_loop3 (x0 := x0) (r1 := ((some (H.length + 1, 0), 0, ()), H1)) rfl (by rw [wn, hn]) (by omega) (by omega) (by omega) (by omega) (Nat.le_refl _) lv2 (by omega)
  have q5 := room_eq lv3.at' (by rw [lv3.ok.len]; omega) (by rw [lv3.ok.pg]; omega) (by rw [lv3.ok.pg]; omega) ⟨lv3.ok.nx0, by rw [lv3.ok.pg]; exact lv3.ok.nx1⟩
  rw [hz] at q5
  refine ⟨H3, ?_⟩
  unfold law10_LifeRoom
  simp [wn, wk, hk, q1, awake_true, q2, q3, q4, q5]
end Ev
