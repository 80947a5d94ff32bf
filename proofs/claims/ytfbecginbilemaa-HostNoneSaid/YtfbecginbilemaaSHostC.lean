/- The host: reading; marks. -/
import Derived.Test.YtfbecginbilemaaSHostB
namespace Ev
open Go (IntKind)

theorem row_is {r : Nat} {w : Int} {st : Nat} {cmd want : Int} {inn out : Bytes} {at' busy : Nat} {f q : Bool} (pre : Bytes) (hr : r < 16777216) : (⟨st, cmd, want, pre ++ leB 3 r, inn, out, at', busy, f, q, w⟩ : Bs).row = r := by
  show valB ((pre ++ leB 3 r).drop ((pre ++ leB 3 r).length - 3)) = r
  rw [List.length_append, leB_length, Nat.add_sub_cancel, List.drop_left, valB_leB 3 r hr]
theorem dm_is (i q P : Nat) (hq : q < P) : (i * P + q) / P = i ∧ (i * P + q) % P = q := by
  have h : i * P + q = q + P * i := by rw [Nat.mul_comm]; omega
  constructor
  · rw [h, Nat.add_mul_div_left _ _ (by omega), Nat.div_eq_of_lt hq]; omega
  · rw [h, Nat.add_mul_mod_self_left, Nat.mod_eq_of_lt hq]
section
variable {H : Heap} {N : Nat → Prop} {h b : Nat} {a : NdA} {s : Nd} {k : Bs} {T : Int} {n : Nat}
theorem Ho.marked (o : Ho H N h b a s k T n) (hr : Rest k) (hT : T + 20 < 999999) (x : Int) : ∃ H' k' n', host_Host_Marked (some (h, 0)) x H = some (s.markedT a x, H') ∧ Ho H' N h b a s k' (T + 10) n' ∧ Rest k' ∧ Keep (fun x => ¬ N x) H H' := by
  have hsz := o.wf.sz
  have hsm := o.wf.small
  obtain ⟨r, b1, b2⟩ := o.begin x 0
  unfold host_Host_Marked
  by_cases he : s.inE a x 0 = 0
  · obtain ⟨hoff, i, q, rfl, hq0, hi, hq⟩ := in_zero he
    have hr0 := b2 he
    rw [show (0 : Int) = ((0 : Nat) : Int) from rfl, row_wrap (by omega) (by omega) (by omega), Nat.add_zero] at hr0
    subst hr0
    have hrow : i * a.P ≤ 1000000 := Nat.mul_le_mul (show i ≤ 1000 by omega) (show a.P ≤ 1000 by omega)
    obtain ⟨st, cmd, want, addr, inn, out, at', busy, f, asked, w⟩ := k
    obtain ⟨hbz, hask⟩ := hr
    simp only at hbz hask
    subst hbz; subst hask
    obtain ⟨H1, c1, c2, c3⟩ := o.command (by omega) 165
    have e1 : Bs.command a s ⟨st, cmd, want, addr, inn, out, at', 0, f, false, w⟩ 165 = (s, ⟨1, 165, 3, [], [], [], 0, 0, f, false, w⟩) := rfl
    rw [e1] at c2
    obtain ⟨H2, d1, d2, d3⟩ := c2.send (i * a.P) 3 (by omega) (by omega) (by decide)
    have hblk : (⟨3, 165, 3, leB 3 (i * a.P), [], [], 0, 0, f, false, w⟩ : Bs).blk a = (i : Int) :=
      congrArg (fun n : Nat => (n : Int)) (row_3 (st := 3) (cmd := 165) (want := 3) (inn := []) (out := []) (at' := 0) (busy := 0) (f := f) (q := false) (w := w) (i := i) (P := a.P) (r := i * a.P) [] (by omega) (by omega) rfl)
    have e2 : Bs.addrs a (leB 3 (i * a.P)) s ⟨1, 165, 3, [], [], [], 0, 0, f, false, w⟩ = (s, ⟨4, 165, 3, leB 3 (i * a.P), [], cond (s.markedT a ((⟨3, 165, 3, leB 3 (i * a.P), [], [], 0, 0, f, false, w⟩ : Bs).blk a)).1 [0] [255], 0, 3, !decide ((s.markedT a ((⟨3, 165, 3, leB 3 (i * a.P), [], [], 0, 0, f, false, w⟩ : Bs).blk a)).2.1 = 0), false, w⟩) := rfl
    have het : s.markedT a (i : Int) = (s.mark i, 0, ()) := by
      unfold Nd.markedT
      rw [if_neg (by simpa using he), Int.toNat_natCast]
    rw [hblk, het] at e2
    rw [e2] at d2
    obtain ⟨H4, n', g1, g2, g3, g4⟩ := d2.wait (by omega)
    obtain ⟨H5, j1, j2, j3⟩ := g2.failed (by omega) rfl
    obtain ⟨H6, m1, m2, m3⟩ := j2.out (by omega)
    have ho : (⟨4, 165, 3, leB 3 (i * a.P), [], cond (s.mark i) [0] [255], 0, 0, false, false, w⟩ : Bs).outF = (cond (s.mark i) 0 255, ⟨4, 165, 3, leB 3 (i * a.P), [], cond (s.mark i) [0] [255], 1, 0, false, false, w⟩) := by
      cases s.mark i <;> rfl
    have m1' : bus_Bus_Out (some (b, 0)) H5 = some ((cond (s.mark i) 0 255, ()), H6) := by
      rw [m1]; exact congrArg (fun y => some ((y, ()), H6)) (congrArg Prod.fst ho)
    have m2' : Ho H6 N h b a s ⟨4, 165, 3, leB 3 (i * a.P), [], cond (s.mark i) [0] [255], 1, 0, false, false, w⟩ (T + 1 + ((3 : Nat) : Int) + 1 + 2 + 1) n' := by
      have hs := congrArg Prod.snd ho
      simp only at hs
      rw [← hs]
      exact m2
    have hK : Keep (fun x => ¬ N x) H H6 := (((c3.trans d3).trans g4).trans j3).trans m3
    refine ⟨H6, _, n', ?_, m2'.le (by omega) (by omega), ⟨rfl, rfl⟩, hK⟩
    have hd3 : host_Host_send (some (h, 0)) ((i * a.P : Nat) : Int) 3 H1 = some ((), H2) := d1
    have j1' : host_Host_failed (some (h, 0)) H4 = some ((false, ()), H5) := j1
    rw [het]
    simp only [b1, bind_some, he, decide_true, Bool.not_true, cond_f, o.rb, c1, hd3, g1, j1', j2.rb, m1']
    cases s.mark i <;> rfl
  · refine ⟨H, k, n, ?_, o.le (by omega) (by omega), hr, Keep.refl _ _⟩
    have het : s.markedT a x = (false, s.inE a x 0, ()) := by
      unfold Nd.markedT
      rw [if_pos he]
    rw [het]
    simp only [b1, bind_some, decide_eq_false he, Bool.not_false, cond_t]
theorem Ho.read (o : Ho H N h b a s k T n) (hr : Rest k) (hT : T + 2000 < 999999) (x p : Int) : ∃ H' k' n', host_Host_Read (some (h, 0)) x p H = some (s.readT a x p, H') ∧ Ho H' N h b a s k' (T + (a.S : Int) + 50) n' ∧ Rest k' ∧ Keep (fun x => ¬ N x) H H' := by
  have hsz := o.wf.sz
  have hsm := o.wf.small
  obtain ⟨r, b1, b2⟩ := o.begin x p
  unfold host_Host_Read
  by_cases he : s.inE a x p = 0
  · obtain ⟨hoff, i, q, rfl, rfl, hi, hq⟩ := in_zero he
    have hr0 := b2 he
    rw [row_wrap (by omega) (by omega) (by omega)] at hr0
    subst hr0
    have hrow : i * a.P ≤ 1000000 := Nat.mul_le_mul (show i ≤ 1000 by omega) (show a.P ≤ 1000 by omega)
    obtain ⟨st, cmd, want, addr, inn, out, at', busy, f, asked, w⟩ := k
    obtain ⟨hbz, hask⟩ := hr
    simp only at hbz hask
    subst hbz; subst hask
    obtain ⟨H1, c1, c2, c3⟩ := o.command (by omega) 0
    have e1 : Bs.command a s ⟨st, cmd, want, addr, inn, out, at', 0, f, false, w⟩ 0 = (s, ⟨1, 0, 5, [], [], [], 0, 0, f, false, w⟩) := rfl
    rw [e1] at c2
    obtain ⟨H2, d1, d2, d3⟩ := c2.send 0 2 (by omega) (by omega) (by decide)
    have e2 : Bs.addrs a (leB 2 0) s ⟨1, 0, 5, [], [], [], 0, 0, f, false, w⟩ = (s, ⟨1, 0, 5, [0, 0], [], [], 0, 0, f, false, w⟩) := rfl
    rw [e2] at d2
    obtain ⟨H3, f1, f2, f3⟩ := d2.send (i * a.P + q) 3 (by omega) (by omega) (by decide)
    have e3 : Bs.addrs a (leB 3 (i * a.P + q)) s ⟨1, 0, 5, [0, 0], [], [], 0, 0, f, false, w⟩ = (s, ⟨3, 0, 5, [0, 0] ++ leB 3 (i * a.P + q), [], [], 0, 0, f, false, w⟩) := rfl
    rw [e3] at f2
    obtain ⟨H4, g1, g2, g3⟩ := f2.command (by omega) 48
    have hrw : (⟨3, 0, 5, [0, 0] ++ leB 3 (i * a.P + q), [], [], 0, 0, f, false, w⟩ : Bs).row = i * a.P + q := row_is [0, 0] (by omega)
    obtain ⟨dm1, dm2⟩ := dm_is i q a.P hq
    have hblk : (⟨3, 0, 5, [0, 0] ++ leB 3 (i * a.P + q), [], [], 0, 0, f, false, w⟩ : Bs).blk a = (i : Int) := by
      unfold Bs.blk
      rw [hrw, dm1]
    have hpg : (⟨3, 0, 5, [0, 0] ++ leB 3 (i * a.P + q), [], [], 0, 0, f, false, w⟩ : Bs).pg a = (q : Int) := by
      unfold Bs.pg
      rw [hrw, dm2]
    have het : s.readT a (i : Int) (q : Int) = ((s.read a i q).take a.S, (s.read a i q).drop a.S, 0, ()) := by
      unfold Nd.readT
      rw [if_neg (by simpa using he), Int.toNat_natCast, Int.toNat_natCast]
    have hrl := o.wf.fine.read i q
    have hgot : (⟨3, 0, 5, [0, 0] ++ leB 3 (i * a.P + q), [], [], 0, 0, f, false, w⟩ : Bs).got a s = s.read a i q := by
      unfold Bs.got
      rw [hblk, hpg, het]
      have hc : (⟨3, 0, 5, [0, 0] ++ leB 3 (i * a.P + q), [], [], 0, 0, f, false, w⟩ : Bs).col = 0 := rfl
      rw [hc]
      show (((s.read a i q).take a.S ++ (s.read a i q).drop a.S)).drop (min _ 0) = _
      rw [Nat.min_zero, List.drop_zero, List.take_append_drop]
    have e4 : Bs.command a s ⟨3, 0, 5, [0, 0] ++ leB 3 (i * a.P + q), [], [], 0, 0, f, false, w⟩ 48 = (s, ⟨4, 0, 5, [0, 0] ++ leB 3 (i * a.P + q), [], (⟨3, 0, 5, [0, 0] ++ leB 3 (i * a.P + q), [], [], 0, 0, f, false, w⟩ : Bs).got a s, 0, 3, !decide ((s.readT a ((⟨3, 0, 5, [0, 0] ++ leB 3 (i * a.P + q), [], [], 0, 0, f, false, w⟩ : Bs).blk a) ((⟨3, 0, 5, [0, 0] ++ leB 3 (i * a.P + q), [], [], 0, 0, f, false, w⟩ : Bs).pg a)).2.2.1 = 0), false, w⟩) := rfl
    rw [hgot, hblk, hpg, het] at e4
    rw [e4] at g2
    obtain ⟨H5, n', j1, j2, j3, j4⟩ := g2.wait (by omega)
    obtain ⟨H6, l1, l2, l3⟩ := j2.failed (by omega) rfl
    obtain ⟨H7, m1, m2, m3⟩ := l2.take (a.S + 32) (by omega) rfl rfl rfl rfl (by show a.S + 32 ≤ (s.read a i q).length; omega)
    have m1' : host_take (some (b, 0)) ((a.S + 32 : Nat) : Int) H6 = some ((s.read a i q, ()), H7) := by
      rw [m1]
      have : (s.read a i q).take (a.S + 32) = s.read a i q := List.take_of_length_le (by omega)
      exact congrArg (fun y => some ((y, ()), H7)) this
    have l1' : host_Host_failed (some (h, 0)) H5 = some ((false, ()), H6) := l1
    have hK : Keep (fun x => ¬ N x) H H7 := (((((c3.trans d3).trans f3).trans g3).trans j4).trans l3).trans m3
    refine ⟨H7, _, n', ?_, m2.le (by omega) (by omega), ⟨rfl, rfl⟩, hK⟩
    have hd1 : host_Host_send (some (h, 0)) 0 2 H1 = some ((), H2) := d1
    have hf1 : host_Host_send (some (h, 0)) ((i * a.P + q : Nat) : Int) 3 H2 = some ((), H3) := f1
    have hw : IntKind.wrap .i64 ((a.S : Int) + 32) = ((a.S + 32 : Nat) : Int) := by rw [wrap_i64 (by omega) (by omega)]; omega
    have s1 : subS (s.read a i q) 0 (a.S : Int) = some ((s.read a i q).take a.S) := by
      have := sub_of (s := s.read a i q) (lo := 0) (hi := a.S) (by omega) (by omega)
      rwa [List.drop_zero] at this
    have s2 : subS (s.read a i q) (a.S : Int) ((s.read a i q).length : Int) = some ((s.read a i q).drop a.S) := by
      have := sub_of (s := s.read a i q) (lo := a.S) (hi := (s.read a i q).length) (by omega) (Nat.le_refl _)
      rwa [List.take_length] at this
    rw [het]
    simp only [b1, bind_some, he, decide_true, Bool.not_true, cond_f, o.rb, c1, hd1, hf1, f2.rb, g1, j1, l1', l2.rb, l2.rS, hw, m1', m2.rS, s1, s2]
  · refine ⟨H, k, n, ?_, o.le (by omega) (by omega), hr, Keep.refl _ _⟩
    have het : s.readT a x p = ([], [], s.inE a x p, ()) := by
      unfold Nd.readT
      rw [if_pos he]
    rw [het]
    simp only [b1, bind_some, decide_eq_false he, Bool.not_false, cond_t]
end
end Ev
