/- Chapter 13: reading what was told; a calm chip. -/
import Derived.Test.YtloijdlakkmjgaaSLaw13j
namespace Ev
open Go (IntKind)

theorem divP (b q P : Nat) (hq : q < P) : (b * P + q) / P = b ∧ (b * P + q) % P = q := by
  have h : b * P + q = q + P * b := by rw [Nat.mul_comm]; omega
  constructor
  · rw [h, Nat.add_mul_div_left _ _ (by omega), Nat.div_eq_of_lt hq]; omega
  · rw [h, Nat.add_mul_mod_self_left, Nat.mod_eq_of_lt hq]
/-- What stands is read. -/
theorem read_told {a : NdA} {s : Nd} {b q : Nat} {t : Tg} {x : Bytes} (ho : s.off = false) (hb : b < a.B) (hq : q < a.P) (hp : s.pages b q = frameB a t x) (ht : tagOK t = true) (hseq : 0 ≤ t.2.1 ∧ t.2.1 < 18446744073709551616) (hS : a.S < 65536) (hx : x.length ≤ a.S) : readW a s (b * a.P + q) = (t, x, 0, ()) := by
  obtain ⟨e1, e2⟩ := divP b q a.P hq
  have h0 : s.inE a (b : Int) (q : Int) = 0 := inE_yes ho hb hq
  have hl : (frameB a t x).length = a.S + 32 := frameB_length hx
  have hr : s.readT a (b : Int) (q : Int) = ((frameB a t x).take a.S, (frameB a t x).drop a.S, 0, ()) := by
    unfold Nd.readT
    rw [if_neg (by rw [h0]; simp), Int.toNat_natCast, Int.toNat_natCast]
    unfold Nd.read
    rw [if_neg (by rw [hp]; intro hh; rw [hh] at hl; simp at hl), hp]
  have hv : lookP ((frameB a t x).take a.S) ((frameB a t x).drop a.S) = (1, t, x, ()) := view_frame ht hseq hS hx
  unfold readW
  rw [e1, e2, hr]
  simp only [hv, if_true]
theorem lay_here {a : NdA} {s : Nd} {b p : Nat} {t : Tg} {x : Bytes} (hx : x.length ≤ a.S) : (s.lay a b p (frameB a t x)).pages b p = frameB a t x := by
  unfold Nd.lay upd2
  simp only
  rw [if_pos ⟨trivial, trivial⟩, if_neg (frame_ne_full hx)]
theorem lay_there {a : NdA} {s : Nd} {b p : Nat} {T : Bytes} {k q : Nat} (h : ¬ (k = b ∧ q = p)) : (s.lay a b p T).pages k q = s.pages k q := by
  unfold Nd.lay upd2
  simp only
  rw [if_neg h]

theorem WInv.new (a : NdA) (fails : List Int) (hP : 0 < a.P) : WInv a (Nd.new [] fails []) Wr.new := by
  refine ⟨rfl, rfl, fun i hi => ⟨by show (0 : Int) ≤ 0; decide, by show (0 : Int) ≤ 3; decide⟩, .inl (by show (-1 : Int) < 0; decide), fun i hi _ q hq => rfl, fun i hi h => ?_, fun i hi h => ?_⟩
  · have h' : decide ((i : Int) ∈ ([] : List Int)) = true := h
    simp at h'
  · have h' : (0 : Int) = 1 := h
    omega
theorem Wf.new' {a : NdA} {cuts : List Cut} {fails : List Int} (hc : ∀ x ∈ cuts, 0 ≤ x.2.2.1 ∧ x.2.2.1 < 256) (sz : 1 ≤ a.B ∧ a.B ≤ 1000 ∧ 1 ≤ a.P ∧ a.P ≤ 1000 ∧ a.S ≤ 1000) : Wf a (Nd.new cuts fails []) 0 :=
  ⟨⟨by show (0 : Int) ≤ 0; decide, by show (0 : Int) ≤ 0; decide⟩, fun b => ⟨by show (0 : Int) ≤ 0; decide, by show (0 : Int) ≤ 0; decide⟩, hc, fun b p => .inl rfl, by decide, sz⟩
theorem tagN_seq {n : Nat} (hn : n < 4294967296) {w : Int} : 0 ≤ ((tagN n).worn w).2.1 ∧ ((tagN n).worn w).2.1 < 18446744073709551616 := by
  show 0 ≤ (n : Int) ∧ (n : Int) < 18446744073709551616
  omega

theorem awake13 : law13_awake = some (true, ()) := by
  unfold law13_awake law13_awake.on
  obtain ⟨H1, a, e, z, b1, b2, b3, hB0, hB1, hP0, hP1, hS0, hS1⟩ := begun13 (H := []) (f1 := ⟨none, 0, 0⟩) (f2 := ⟨none, 0, 0⟩) (f3 := ⟨none, 0, 0⟩) (t1 := ⟨none, 0, 0⟩) (t2 := ⟨none, 0, 0⟩) (cuts := []) (fails := []) (0, 0, 0, ()) rfl rfl (Row.ni [] 3 0) (Row.ni [] 1 0) (by decide) (by decide)
  have sz : 1 ≤ a.B ∧ a.B ≤ 1000 ∧ 1 ≤ a.P ∧ a.P ≤ 1000 ∧ a.S ≤ 1000 := by omega
  obtain ⟨eB, eP⟩ := b2.eB
  have i0 := WInv.new a [] (show 0 < a.P by omega)
  have w0 := Wf.new' (fails := []) (fun x (hx : x ∈ ([] : List Cut)) => by cases hx) sz
  have tk : ∀ n : Nat, ∀ w : Int, 0 ≤ w → w ≤ 1000000 → tagOK ((tagN n).worn w) = true := fun n w h1 h2 => tag_ok (by omega)
  obtain ⟨H2, p2, er2, s2, v2, sb2, c1, c2, c3, c4, c5, c6, c7, c8, c9⟩ := app_calm (t := tagN 1) (x := [111, 110, 101]) b2 i0 w0 (by decide) (by omega) (by decide) (fun j hj => ⟨Int.le_refl 0, by show (0 : Int) ≤ 1000000; decide⟩) (tk 1) (tagN_seq (by decide) (w := 0)) (by show 3 ≤ a.S; omega)
  rcases c4.calm (failNow_nil rfl) with ⟨_, hh, _⟩ | ⟨v1, b, hit, rfl, rfl, rfl, rfl⟩
  · exact absurd rfl (hh 0 (by omega))
  have hb0 : b = 0 ∧ v1.lf.nx = 0 := by
    rcases hit.op with ⟨hh, _⟩ | ⟨_, _, c, hc, _, hc2, rfl⟩ | ⟨_, hh, _⟩
    · exact absurd hh (by show ¬ (0 : Int) ≤ -1; decide)
    · have ho := hit.ho
      have hcb : (c : Int) = (b : Int) := ho
      refine ⟨?_, rfl⟩
      by_cases h0 : c = 0
      · omega
      · have := (hc2 0 (by omega) rfl).2 (by omega)
        exact absurd this (by show ¬ (0 : Int) < 0; decide)
    · cases hh
  obtain ⟨hb, hnx⟩ := hb0
  subst hb
  have ho2 : (v1.lf.took e 0).op = 0 := by rw [took_op, if_neg (by omega)]; exact hit.ho
  have hn2 : (v1.lf.took e 0).nx = 1 := by unfold Lf.took; split <;> (simp; omega)
  have hl2 : (v1.lf.took e 0).l 0 = 1 := by rw [took_l, if_neg (by omega)]; exact hit.hl
  obtain ⟨H3, p3, er3, s3, v3, sb3, d1, d2, d3, d4, d5, d6, d7, d8, d9⟩ := app_calm (t := tagN 2) (x := [116, 119, 111]) c2 c5 c6 (by decide) (by omega) (by show v1.bad.length ≤ _; rw [hit.bad]; decide) (fun j hj => by
    show 0 ≤ v1.worn j ∧ v1.worn j ≤ 1000000
    rw [hit.worn]; exact ⟨Int.le_refl 0, by show (0 : Int) ≤ 1000000; decide⟩) (tk 2) (tagN_seq (by decide) (w := 0)) (by show 3 ≤ a.S; omega)
  rcases d4.calm (failNow_nil rfl) with ⟨hh, _⟩ | ⟨v5, b5, hit5, rfl, rfl, rfl, rfl⟩
  · have : (v1.lf.took e 0).op < 0 := hh
    omega
  have hv5 : v5 = { v1 with lf := v1.lf.took e 0 } := by
    rcases hit5.op with ⟨_, _, hh⟩ | ⟨hh, _⟩ | ⟨_, hh, _⟩
    · exact hh
    · have : (v1.lf.took e 0).op < 0 := hh
      omega
    · cases hh
  have hb5 : b5 = 0 := by
    have := hit5.ho
    rw [hv5] at this
    have h' : (v1.lf.took e 0).op = (b5 : Int) := this
    omega
  subst hb5
  have hn5 : v5.lf.nx = 1 := by rw [hv5]; exact hn2
  obtain ⟨H4, r1, r2, r3⟩ := write_Read d2 d6 (k := 1) (by decide)
  have hoff := d5.off
  have hrd := read_told (q := 1) (t := (tagN 2).worn (v5.worn 0)) (x := [116, 119, 111]) hoff (show 0 < a.B by omega) (by omega) (by rw [hn5]; exact lay_here (by show 3 ≤ a.S; omega)) (by rw [hv5]; show tagOK ((tagN 2).worn (v1.worn 0)) = true; rw [hit.worn]; rfl) (tagN_seq (by decide)) (by omega) (by show 3 ≤ a.S; omega)
  rw [show 0 * a.P + 1 = 1 by omega] at hrd
  rw [hrd] at r1
  have hp2 : ((0 * a.P + v1.lf.nx : Nat) : Int) = 0 := by rw [hnx]; omega
  have hp3 : ((0 * a.P + v5.lf.nx : Nat) : Int) = 1 := by rw [hn5]; omega
  rw [hp2] at c1
  rw [hp3] at d1
  have rr := r2.push (tagB ((tagN 2).worn (v5.worn 0)))
  have hl3 : (v5.lf.took e 0).l 0 = 1 := by rw [took_l, if_neg (by omega), hv5]; exact hl2
  have hLife := write_Life rr
  have hIs := life_Is rr.lf (i := 0) (by omega)
  rw [show ({ v5 with lf := v5.lf.took e 0 } : Wr).lf.l 0 = 1 from hl3] at hIs
  have t1 := tag_eq (n := 1) (by decide)
  have t2 := tag_eq (n := 2) (by decide)
  have q1 : ((1 : Nat) : Int) = 1 := rfl
  have q2 : ((2 : Nat) : Int) = 2 := rfl
  rw [q1] at t1 r1
  rw [q2] at t2
  have eg : ∀ n, ((tagN n).1, (tagN n).2.1, (tagN n).2.2.1, (tagN n).2.2.2.1, (tagN n).2.2.2.2.1, ()) = tagN n := fun _ => rfl
  have w1 := wr_last (H := H4) (cs := [.int .i64 0, .int .u64 0, .int .i64 0, .int .i64 0, .int .i64 0]) (bk := .exact) (new := [.int .i64 ((tagN 2).worn (v5.worn 0)).1, .int .u64 ((tagN 2).worn (v5.worn 0)).2.1, .int .i64 ((tagN 2).worn (v5.worn 0)).2.2.1, .int .i64 ((tagN 2).worn (v5.worn 0)).2.2.2.1, .int .i64 ((tagN 2).worn (v5.worn 0)).2.2.2.2.1]) (o := 0) (by decide) (by simp)
  have w1' : wr (H4 ++ [Blk.cells [.int .i64 0, .int .u64 0, .int .i64 0, .int .i64 0, .int .i64 0] .exact]) H4.length 0 [.int .i64 ((tagN 2).worn (v5.worn 0)).1, .int .u64 ((tagN 2).worn (v5.worn 0)).2.1, .int .i64 ((tagN 2).worn (v5.worn 0)).2.2.1, .int .i64 ((tagN 2).worn (v5.worn 0)).2.2.2.1, .int .i64 ((tagN 2).worn (v5.worn 0)).2.2.2.2.1] = some (H4 ++ [tagB ((tagN 2).worn (v5.worn 0))]) := w1
  have ru : rdI .u64 (H4 ++ [tagB ((tagN 2).worn (v5.worn 0))]) H4.length 1 = some 2 := rdI_of app_last rfl
  have q0 : ((0 : Nat) : Int) = 0 := rfl
  rw [q0] at hIs
  simp only [b1, bind_some, Bool.not_true, cond_f, t1, t2, eg, c1, d1, r1, w1', decide_true, cond_t, ru, hLife, hIs]
end Ev
