/- The host: bytes that are told; erasing; marking. -/
import Derived.Test.YtfbecginbilemaaSHost
namespace Ev
open Go (IntKind)

theorem arr_u8 : ∀ n : Nat, arrC n (fun _ => [C.int .u8 0]) = cellsOf (List.replicate n 0)
  | 0 => rfl
  | n + 1 => by
    rw [arrC, arr_u8 n, List.replicate_succ', cells_app]; rfl
theorem mkS_u8 {H : Heap} {n : Nat} (h : n ≤ 35184372088832) : mkS H 1 [.int .u8 0] (n : Int) (n : Int) = some (⟨some (H.length, 0), n, n⟩, H ++ [.cells (cellsOf (List.replicate n 0)) .exact]) := by
  rw [mkS_of (by omega) h, arr_u8]
/-- Nothing is under way. -/
structure Rest (k : Bs) : Prop where
  busy : k.busy = 0
  asked : k.asked = false
section
variable {g : Geo} {H : Heap} {N : Nat → Prop} {h b : Nat} {a : NdA} {s : Nd} {k : Bs} {T : Int} {n : Nat}
theorem Hg.NL (o : Hg g H N h b a s k T n) {x : Nat} (hx : N x) : x < H.length := by
  obtain ⟨⟨⟨sa, si, hb⟩, _, _⟩, _, _⟩ := o
  exact hb.fl x (.inl hx)
theorem ofNat_toNat (u : UInt8) : UInt8.ofNat u.toNat = u := by simp
theorem Hg.take (o : Hg g H N h b a s k T n) (m : Nat) (hT : T + m < 999999) (h1 : k.asked = false) (h2 : k.busy = 0) (h3 : k.st = 4) (h4 : k.at' = 0) (hm : m ≤ k.out.length) :
    ∃ H', host_take (some (b, 0)) (m : Int) H = some ((k.out.take m, ()), H') ∧ Hg g H' N h b a s { k with at' := m } (T + m) n ∧ Keep (fun x => ¬ N x) H H' := by
  have hsm := o.wf.small
  have hdd := o.wf.did
  have hmk := mkS_u8 (H := H) (n := m) (by omega)
  have nl : ¬ N H.length := fun hh => by have := o.NL hh; omega
  obtain ⟨y, G, l1, l2, l3, l4⟩ := loop_rise (step := host_take.s1 (some (b, 0)) (⟨some (H.length, 0), m, m⟩, H ++ [.cells (cellsOf (List.replicate m 0)) .exact])) m
    (fun i t G => t = ((i : Int), ()) ∧ Hg g G (fun y => N y ∨ y = H.length) h b a s { k with at' := i } (T + i) n ∧ G[H.length]? = some (.cells (cellsOf (k.out.take i ++ List.replicate (m - i) 0)) .exact) ∧ Keep (fun x => ¬ N x) H G)
    (fun _ G => Hg g G (fun y => N y ∨ y = H.length) h b a s { k with at' := m } (T + m) n ∧ G[H.length]? = some (.cells (cellsOf (k.out.take m)) .exact) ∧ Keep (fun x => ¬ N x) H G)
    (by
      rintro i _ G hi ⟨rfl, q, hc, kq⟩
      obtain ⟨G1, o1, o2, o3⟩ := q.out (by omega)
      have hlt : i < k.out.length := by omega
      have ho : ({ k with at' := i } : Bs).outF = ((((k.out[i]'hlt).toNat : Nat) : Int), { k with at' := i + 1 }) := by
        unfold Bs.outF
        simp only [h1, h2, h3, cond_f, decide_true, Bool.not_true, Bool.or_false]
        rw [show decide (((4 : Nat) : Int) = 4) = true from rfl, Bool.not_true, show (false || false) = false from rfl, cond_f, dif_pos hlt]
      rw [ho] at o1 o2
      have c1 := o3.get hc (fun hh => hh (.inr rfl))
      have hat : Sl.at 1 ⟨some (H.length, 0), m, m⟩ (i : Int) = some (H.length, i) := by rw [at_of (by omega) (by show (i : Int) < (m : Int); omega), Int.toNat_natCast, Nat.mul_one, Nat.zero_add]
      have hln : (k.out.take i).length = i := by rw [List.length_take]; omega
      have w1 := wr_of (o := i) (new := [.int .u8 (((k.out[i]'hlt).toNat : Nat) : Int)]) c1 (by decide) (by rw [cells_len, List.length_append, hln, List.length_replicate]; show i + 1 ≤ _; omega)
      have hset : setL (cellsOf (k.out.take i ++ List.replicate (m - i) 0)) i [.int .u8 (((k.out[i]'hlt).toNat : Nat) : Int)] = cellsOf (k.out.take (i + 1) ++ List.replicate (m - (i + 1)) 0) := by
        rw [show m - i = (m - (i + 1)) + 1 by omega, List.replicate_succ, List.take_add_one, List.getElem?_eq_getElem hlt, cells_app]
        have := setL_mid [.int .u8 (((k.out[i]'hlt).toNat : Nat) : Int)] [.int .u8 0] (cellsOf (k.out.take i)) (cellsOf (List.replicate (m - (i + 1)) 0)) i (by rw [cells_len, hln]) rfl
        rw [List.append_assoc, List.append_assoc] at this
        refine this.trans ?_
        rw [List.append_assoc, cells_app]
        rfl
      rw [hset] at w1
      have kp : Keep (fun x => x = H.length) G1 (G1.set H.length (.cells (cellsOf (k.out.take (i + 1) ++ List.replicate (m - (i + 1)) 0)) .exact)) := Keep.set _ _ _ rfl
      refine .inl ⟨(((i + 1 : Nat) : Int), ()), _, ?_, rfl, ?_, set_get (get_lt c1), (kq.trans (o3.mono fun x hx hn => hx (.inl hn))).trans (kp.mono fun x hx hn => nl (hx ▸ hn))⟩
      · unfold host_take.s1
        simp only [decide_eq_true (show (i : Int) < (m : Int) by omega), cond_t, o1, bind_some, hat, w1, wrap_succ (show i < 9223372036854775807 by omega)]
      · rw [show T + ((i + 1 : Nat) : Int) = T + (i : Int) + 1 by omega]
        exact o2.far kp fun x hx => .inr hx)
    (by
      rintro _ G ⟨rfl, q, hc, kq⟩
      refine ⟨(), G, ?_, q, ?_, kq⟩
      · unfold host_take.s1
        simp only [decide_eq_false (show ¬ (m : Int) < (m : Int) by omega), cond_f]
      · rw [hc, Nat.sub_self, show List.replicate 0 (0 : UInt8) = [] from rfl, List.append_nil])
    (y := (((0 : Nat) : Int), ())) ⟨rfl, (by
      have e : ({ k with at' := 0 } : Bs) = k := by cases k; simp only at h4; subst h4; rfl
      rw [e, show T + ((0 : Nat) : Int) = T by omega]
      exact o.add _), app_last, Keep.push _ _ _⟩
  have l1' : loopW (host_take.s1 (some (b, 0)) (⟨some (H.length, 0), m, m⟩, H ++ [.cells (cellsOf (List.replicate m 0)) .exact])) (0, ()) (H ++ [.cells (cellsOf (List.replicate m 0)) .exact]) = some (y, G) := l1
  have hlm : (k.out.take m).length = m := by rw [List.length_take]; omega
  have hst : strOf G ⟨some (H.length, 0), m, m⟩ = some (k.out.take m) := strOf_of l3 (by rw [cells_len, hlm]; omega) (by
    rw [List.drop_zero, List.take_of_length_le]; rw [cells_len, hlm]; exact Nat.le_refl _)
  refine ⟨G, ?_, l2.less fun x hx => .inl hx, l4⟩
  unfold host_take
  simp only [hmk, bind_some, l1', hst]

theorem row_3 {r P i : Nat} {w : Int} {st : Nat} {cmd want : Int} {inn out : Bytes} {at' busy : Nat} {f q : Bool} (pre : Bytes) (hr : r < 16777216) (hP : 0 < P) (hi : r = i * P) : (⟨st, cmd, want, pre ++ leB 3 r, inn, out, at', busy, f, q, w⟩ : Bs).row / P = i := by
  have : (⟨st, cmd, want, pre ++ leB 3 r, inn, out, at', busy, f, q, w⟩ : Bs).row = r := by
    show valB ((pre ++ leB 3 r).drop ((pre ++ leB 3 r).length - 3)) = r
    rw [List.length_append, leB_length, Nat.add_sub_cancel, List.drop_left, valB_leB 3 r hr]
  rw [this, hi, Nat.mul_div_cancel _ hP]
theorem erase_res {a : NdA} {s : Nd} {i : Nat} (ho : s.off = false) : (s.erase a i).1 = 0 ∨ ((s.erase a i).1 = 51 ∧ (s.erase a i).2.off = true) ∨ ((s.erase a i).1 = 54 ∧ (s.erase a i).2.off = false) := by
  unfold Nd.erase
  cases hc : s.cutNow with
  | some x =>
    right; left
    refine ⟨rfl, ?_⟩
    simp only
    split
    · show (s.off || s.cutNow.isSome) = true
      rw [hc]; simp
    · show (s.off || s.cutNow.isSome) = true
      rw [hc]; simp
  | none =>
    simp only
    split
    · right; right
      refine ⟨rfl, ?_⟩
      show (s.off || s.cutNow.isSome) = false
      rw [hc, ho]; rfl
    · exact .inl rfl
theorem mark_res {s : Nd} {i : Nat} : (s.domark i).1 = 0 ∨ ((s.domark i).1 = 51 ∧ (s.domark i).2.off = true) := by
  unfold Nd.domark
  cases hc : s.cutNow with
  | some x =>
    right
    refine ⟨rfl, ?_⟩
    simp only
    split
    · show (s.off || s.cutNow.isSome) = true
      rw [hc]; simp
    · show (s.off || s.cutNow.isSome) = true
      rw [hc]; simp
  | none => exact .inl rfl
theorem prog_res {a : NdA} {s : Nd} {i q : Nat} {t : Bytes} (ho : s.off = false) : (s.program a i q t).1 = 0 ∨ ((s.program a i q t).1 = 51 ∧ (s.program a i q t).2.off = true) ∨ ((s.program a i q t).1 = 53 ∧ (s.program a i q t).2.off = false) := by
  unfold Nd.program
  cases hc : s.cutNow with
  | some x =>
    right; left
    refine ⟨rfl, ?_⟩
    show (s.off || s.cutNow.isSome) = true
    rw [hc]; simp
  | none =>
    simp only
    split
    · right; right
      refine ⟨rfl, ?_⟩
      show (s.off || s.cutNow.isSome) = false
      rw [hc, ho]; rfl
    · exact .inl rfl
theorem rest_addrs3 (a : NdA) (s : Nd) (x y z : UInt8) (f : Bool) (w : Int) : Bs.addrs a [x, y, z] s ⟨1, 96, 3, [], [], [], 0, 0, f, false, w⟩ = (s, ⟨3, 96, 3, [x, y, z], [], [], 0, 0, f, false, w⟩) := rfl
theorem row_wrap {i P q : Nat} (hi : i ≤ 1000) (hP : P ≤ 1000) (hq : q ≤ 1000) : IntKind.wrap .i64 (IntKind.wrap .i64 ((i : Int) * (P : Int)) + (q : Int)) = ((i * P + q : Nat) : Int) := by
  have hb : i * P ≤ 1000000 := Nat.mul_le_mul hi hP
  have e1 : IntKind.wrap .i64 ((i : Int) * (P : Int)) = ((i * P : Nat) : Int) := by rw [← Int.natCast_mul]; generalize i * P = m at hb; exact wrap_i64 (by omega) (by omega)
  rw [e1]
  generalize i * P = m at hb
  rw [wrap_i64 (by omega) (by omega)]; omega
theorem Ho.erase (o : Ho H N h b a s k T n) (hr : Rest k) (hT : T + 20 < 999999) (x : Int) : ∃ H' k' n', host_Host_Erase (some (h, 0)) x H = some (((s.eraseT a x).1, ()), H') ∧ Ho H' N h b a (s.eraseT a x).2 k' (T + 10) n' ∧ Rest k' ∧ Keep (fun x => ¬ N x) H H' := by
  have hsz := o.wf.sz
  have hsm := o.wf.small
  obtain ⟨r, b1, b2⟩ := o.begin x 0
  unfold host_Host_Erase Nd.eraseT
  by_cases he : s.inE a x 0 = 0
  · rw [if_neg (by simpa using he)]
    obtain ⟨hoff, i, q, rfl, hq0, hi, hq⟩ := in_zero he
    have hr0 := b2 he
    have hq00 : q = 0 := by omega
    rw [show (0 : Int) = ((0 : Nat) : Int) from rfl, row_wrap (by omega) (by omega) (by omega), Nat.add_zero] at hr0
    subst hr0
    have hrow : i * a.P ≤ 1000000 := Nat.mul_le_mul (show i ≤ 1000 by omega) (show a.P ≤ 1000 by omega)
    obtain ⟨st, cmd, want, addr, inn, out, at', busy, f, asked, w⟩ := k
    obtain ⟨hbz, hask⟩ := hr
    simp only at hbz hask
    subst hbz; subst hask
    obtain ⟨H1, c1, c2, c3⟩ := o.command (by omega) 96
    have e1 : Bs.command a s ⟨st, cmd, want, addr, inn, out, at', 0, f, false, w⟩ 96 = (s, ⟨1, 96, 3, [], [], [], 0, 0, f, false, w⟩) := rfl
    rw [e1] at c2
    obtain ⟨H2, d1, d2, d3⟩ := c2.send (i * a.P) 3 (by omega) (by omega) (by decide)
    have e2 : Bs.addrs a (leB 3 (i * a.P)) s ⟨1, 96, 3, [], [], [], 0, 0, f, false, w⟩ = (s, ⟨3, 96, 3, leB 3 (i * a.P), [], [], 0, 0, f, false, w⟩) := rfl
    rw [e2] at d2
    obtain ⟨H3, f1, f2, f3⟩ := d2.command (by omega) 208
    have hblk : (⟨3, 96, 3, leB 3 (i * a.P), [], [], 0, 0, f, false, w⟩ : Bs).blk a = (i : Int) := by
      exact congrArg (fun n : Nat => (n : Int)) (row_3 (st := 3) (cmd := 96) (want := 3) (inn := []) (out := []) (at' := 0) (busy := 0) (f := f) (q := false) (w := w) (i := i) (P := a.P) (r := i * a.P) [] (by omega) (by omega) rfl)
    have e3 : Bs.command a s ⟨3, 96, 3, leB 3 (i * a.P), [], [], 0, 0, f, false, w⟩ 208 = ((s.eraseT a ((⟨3, 96, 3, leB 3 (i * a.P), [], [], 0, 0, f, false, w⟩ : Bs).blk a)).2, ⟨0, 96, 3, leB 3 (i * a.P), [], [], 0, 15, !decide ((s.eraseT a ((⟨3, 96, 3, leB 3 (i * a.P), [], [], 0, 0, f, false, w⟩ : Bs).blk a)).1 = 0), false, w⟩) := rfl
    rw [hblk] at e3
    have het : s.eraseT a (i : Int) = s.erase a i := by
      unfold Nd.eraseT
      rw [if_neg (by simpa using he), Int.toNat_natCast]
    rw [e3, het] at f2
    obtain ⟨H4, n', g1, g2, g3, g4⟩ := f2.wait (by omega)
    obtain ⟨H5, j1, j2, j3⟩ := g2.failed (by omega) rfl
    rw [Int.toNat_natCast]
    have hK : Keep (fun x => ¬ N x) H H5 := (((c3.trans d3).trans f3).trans g4).trans j3
    refine ⟨H5, _, n', ?_, j2.le (by omega) (by omega), ⟨rfl, rfl⟩, hK⟩
    have hwhy := j2.why 54
    have hd3 : host_Host_send (some (h, 0)) ((i * a.P : Nat) : Int) 3 H1 = some ((), H2) := d1
    simp only [b1, bind_some, he, decide_true, Bool.not_true, cond_f, o.rb, c1, hd3, d2.rb, f1, g1, j1]
    rcases erase_res (a := a) (i := i) hoff with h0 | ⟨h1, h2⟩ | ⟨h1, h2⟩
    · simp only [h0, decide_true, Bool.not_true, cond_f]
    · simp only [h1, show decide ((51 : Int) = 0) = false from rfl, Bool.not_false, cond_t, hwhy, h2, if_true, bind_some]
    · simp only [h1, show decide ((54 : Int) = 0) = false from rfl, Bool.not_false, cond_t, hwhy, h2, Bool.false_eq_true, if_false, bind_some]
  · rw [if_pos he]
    refine ⟨H, k, n, ?_, o.le (by omega) (by omega), hr, Keep.refl _ _⟩
    simp only [b1, bind_some, decide_eq_false he, Bool.not_false, cond_t]
theorem Ho.mark (o : Ho H N h b a s k T n) (hr : Rest k) (hT : T + 20 < 999999) (x : Int) : ∃ H' k' n', host_Host_Mark (some (h, 0)) x H = some (((s.markT a x).1, ()), H') ∧ Ho H' N h b a (s.markT a x).2 k' (T + 10) n' ∧ Rest k' ∧ Keep (fun x => ¬ N x) H H' := by
  have hsz := o.wf.sz
  have hsm := o.wf.small
  obtain ⟨r, b1, b2⟩ := o.begin x 0
  unfold host_Host_Mark Nd.markT
  by_cases he : s.inE a x 0 = 0
  · rw [if_neg (by simpa using he)]
    obtain ⟨hoff, i, q, rfl, hq0, hi, hq⟩ := in_zero he
    have hr0 := b2 he
    rw [show (0 : Int) = ((0 : Nat) : Int) from rfl, row_wrap (by omega) (by omega) (by omega), Nat.add_zero] at hr0
    subst hr0
    have hrow : i * a.P ≤ 1000000 := Nat.mul_le_mul (show i ≤ 1000 by omega) (show a.P ≤ 1000 by omega)
    obtain ⟨st, cmd, want, addr, inn, out, at', busy, f, asked, w⟩ := k
    obtain ⟨hbz, hask⟩ := hr
    simp only at hbz hask
    subst hbz; subst hask
    obtain ⟨H1, c1, c2, c3⟩ := o.command (by omega) 160
    have e1 : Bs.command a s ⟨st, cmd, want, addr, inn, out, at', 0, f, false, w⟩ 160 = (s, ⟨1, 160, 3, [], [], [], 0, 0, f, false, w⟩) := rfl
    rw [e1] at c2
    obtain ⟨H2, d1, d2, d3⟩ := c2.send (i * a.P) 3 (by omega) (by omega) (by decide)
    have hblk : (⟨3, 160, 3, leB 3 (i * a.P), [], [], 0, 0, f, false, w⟩ : Bs).blk a = (i : Int) := by
      exact congrArg (fun n : Nat => (n : Int)) (row_3 (st := 3) (cmd := 160) (want := 3) (inn := []) (out := []) (at' := 0) (busy := 0) (f := f) (q := false) (w := w) (i := i) (P := a.P) (r := i * a.P) [] (by omega) (by omega) rfl)
    have e2 : Bs.addrs a (leB 3 (i * a.P)) s ⟨1, 160, 3, [], [], [], 0, 0, f, false, w⟩ = ((s.markT a ((⟨3, 160, 3, leB 3 (i * a.P), [], [], 0, 0, f, false, w⟩ : Bs).blk a)).2, ⟨0, 160, 3, leB 3 (i * a.P), [], [], 0, 7, !decide ((s.markT a ((⟨3, 160, 3, leB 3 (i * a.P), [], [], 0, 0, f, false, w⟩ : Bs).blk a)).1 = 0), false, w⟩) := rfl
    rw [hblk] at e2
    have het : s.markT a (i : Int) = s.domark i := by
      unfold Nd.markT
      rw [if_neg (by simpa using he), Int.toNat_natCast]
    rw [e2, het] at d2
    obtain ⟨H4, n', g1, g2, g3, g4⟩ := d2.wait (by omega)
    obtain ⟨H5, j1, j2, j3⟩ := g2.failed (by omega) rfl
    rw [Int.toNat_natCast]
    have hK : Keep (fun x => ¬ N x) H H5 := ((c3.trans d3).trans g4).trans j3
    refine ⟨H5, _, n', ?_, j2.le (by omega) (by omega), ⟨rfl, rfl⟩, hK⟩
    have hwhy := j2.why 53
    have hd3 : host_Host_send (some (h, 0)) ((i * a.P : Nat) : Int) 3 H1 = some ((), H2) := d1
    simp only [b1, bind_some, he, decide_true, Bool.not_true, cond_f, o.rb, c1, hd3, g1, j1]
    rcases mark_res (s := s) (i := i) with h0 | ⟨h1, h2⟩
    · simp only [h0, decide_true, Bool.not_true, cond_f]
    · simp only [h1, show decide ((51 : Int) = 0) = false from rfl, Bool.not_false, cond_t, hwhy, h2, if_true, bind_some]
  · rw [if_pos he]
    refine ⟨H, k, n, ?_, o.le (by omega) (by omega), hr, Keep.refl _ _⟩
    simp only [b1, bind_some, decide_eq_false he, Bool.not_false, cond_t]
end
end Ev
namespace Ev
open Go (IntKind)

theorem row_is {r : Nat} {w : Int} {st : Nat} {cmd want : Int} {inn out : Bytes} {at' busy : Nat} {f q : Bool} (pre : Bytes) (hr : r < 16777216) : (⟨st, cmd, want, pre ++ leB 3 r, inn, out, at', busy, f, q, w⟩ : Bs).row = r := by
  show valB ((pre ++ leB 3 r).drop ((pre ++ leB 3 r).length - 3)) = r
  rw [List.length_append, leB_length, Nat.add_sub_cancel, List.drop_left, valB_leB 3 r hr]
theorem dm_is (i q P : Nat) (hq : q < P) : (i * P + q) / P = i ∧ (i * P + q) % P = q := by
  have h : i * P + q = q + P * i := by rw [Nat.mul_comm]; omega
  constructor
  · rw [h, Nat.add_mul_div_left _ _ (by omega), Nat.div_eq_of_lt hq]; omega
  · rw [h, Nat.add_mul_mod_self_left, Nat.mod_eq_of_lt hq]
section
variable {H : Heap} {N : Nat → Prop} {h b : Nat} {a : NdA} {s : Nd} {k : Bs} {T : Int} {n : Nat}
theorem Ho.marked (o : Ho H N h b a s k T n) (hr : Rest k) (hT : T + 20 < 999999) (x : Int) : ∃ H' k' n', host_Host_Marked (some (h, 0)) x H = some (s.markedT a x, H') ∧ Ho H' N h b a s k' (T + 10) n' ∧ Rest k' ∧ Keep (fun x => ¬ N x) H H' := by
  have hsz := o.wf.sz
  have hsm := o.wf.small
  obtain ⟨r, b1, b2⟩ := o.begin x 0
  unfold host_Host_Marked
  by_cases he : s.inE a x 0 = 0
  · obtain ⟨hoff, i, q, rfl, hq0, hi, hq⟩ := in_zero he
    have hr0 := b2 he
    rw [show (0 : Int) = ((0 : Nat) : Int) from rfl, row_wrap (by omega) (by omega) (by omega), Nat.add_zero] at hr0
    subst hr0
    have hrow : i * a.P ≤ 1000000 := Nat.mul_le_mul (show i ≤ 1000 by omega) (show a.P ≤ 1000 by omega)
    obtain ⟨st, cmd, want, addr, inn, out, at', busy, f, asked, w⟩ := k
    obtain ⟨hbz, hask⟩ := hr
    simp only at hbz hask
    subst hbz; subst hask
    obtain ⟨H1, c1, c2, c3⟩ := o.command (by omega) 165
    have e1 : Bs.command a s ⟨st, cmd, want, addr, inn, out, at', 0, f, false, w⟩ 165 = (s, ⟨1, 165, 3, [], [], [], 0, 0, f, false, w⟩) := rfl
    rw [e1] at c2
    obtain ⟨H2, d1, d2, d3⟩ := c2.send (i * a.P) 3 (by omega) (by omega) (by decide)
    have hblk : (⟨3, 165, 3, leB 3 (i * a.P), [], [], 0, 0, f, false, w⟩ : Bs).blk a = (i : Int) :=
      congrArg (fun n : Nat => (n : Int)) (row_3 (st := 3) (cmd := 165) (want := 3) (inn := []) (out := []) (at' := 0) (busy := 0) (f := f) (q := false) (w := w) (i := i) (P := a.P) (r := i * a.P) [] (by omega) (by omega) rfl)
    have e2 : Bs.addrs a (leB 3 (i * a.P)) s ⟨1, 165, 3, [], [], [], 0, 0, f, false, w⟩ = (s, ⟨4, 165, 3, leB 3 (i * a.P), [], cond (s.markedT a ((⟨3, 165, 3, leB 3 (i * a.P), [], [], 0, 0, f, false, w⟩ : Bs).blk a)).1 [0] [255], 0, 3, !decide ((s.markedT a ((⟨3, 165, 3, leB 3 (i * a.P), [], [], 0, 0, f, false, w⟩ : Bs).blk a)).2.1 = 0), false, w⟩) := rfl
    have het : s.markedT a (i : Int) = (s.mark i, 0, ()) := by
      unfold Nd.markedT
      rw [if_neg (by simpa using he), Int.toNat_natCast]
    rw [hblk, het] at e2
    rw [e2] at d2
    obtain ⟨H4, n', g1, g2, g3, g4⟩ := d2.wait (by omega)
    obtain ⟨H5, j1, j2, j3⟩ := g2.failed (by omega) rfl
    obtain ⟨H6, m1, m2, m3⟩ := j2.out (by omega)
    have ho : (⟨4, 165, 3, leB 3 (i * a.P), [], cond (s.mark i) [0] [255], 0, 0, false, false, w⟩ : Bs).outF = (cond (s.mark i) 0 255, ⟨4, 165, 3, leB 3 (i * a.P), [], cond (s.mark i) [0] [255], 1, 0, false, false, w⟩) := by
      cases s.mark i <;> rfl
    have m1' : bus_Bus_Out (some (b, 0)) H5 = some ((cond (s.mark i) 0 255, ()), H6) := by
      rw [m1]; exact congrArg (fun y => some ((y, ()), H6)) (congrArg Prod.fst ho)
    have m2' : Ho H6 N h b a s ⟨4, 165, 3, leB 3 (i * a.P), [], cond (s.mark i) [0] [255], 1, 0, false, false, w⟩ (T + 1 + ((3 : Nat) : Int) + 1 + 2 + 1) n' := by
      have hs := congrArg Prod.snd ho
      simp only at hs
      rw [← hs]
      exact m2
    have hK : Keep (fun x => ¬ N x) H H6 := (((c3.trans d3).trans g4).trans j3).trans m3
    refine ⟨H6, _, n', ?_, m2'.le (by omega) (by omega), ⟨rfl, rfl⟩, hK⟩
    have hd3 : host_Host_send (some (h, 0)) ((i * a.P : Nat) : Int) 3 H1 = some ((), H2) := d1
    have j1' : host_Host_failed (some (h, 0)) H4 = some ((false, ()), H5) := j1
    rw [het]
    simp only [b1, bind_some, he, decide_true, Bool.not_true, cond_f, o.rb, c1, hd3, g1, j1', j2.rb, m1']
    cases s.mark i <;> rfl
  · refine ⟨H, k, n, ?_, o.le (by omega) (by omega), hr, Keep.refl _ _⟩
    have het : s.markedT a x = (false, s.inE a x 0, ()) := by
      unfold Nd.markedT
      rw [if_pos he]
    rw [het]
    simp only [b1, bind_some, decide_eq_false he, Bool.not_false, cond_t]
theorem Ho.read (o : Ho H N h b a s k T n) (hr : Rest k) (hT : T + 2000 < 999999) (x p : Int) : ∃ H' k' n', host_Host_Read (some (h, 0)) x p H = some (s.readT a x p, H') ∧ Ho H' N h b a s k' (T + (a.S : Int) + 50) n' ∧ Rest k' ∧ Keep (fun x => ¬ N x) H H' := by
  have hsz := o.wf.sz
  have hsm := o.wf.small
  obtain ⟨r, b1, b2⟩ := o.begin x p
  unfold host_Host_Read
  by_cases he : s.inE a x p = 0
  · obtain ⟨hoff, i, q, rfl, rfl, hi, hq⟩ := in_zero he
    have hr0 := b2 he
    rw [row_wrap (by omega) (by omega) (by omega)] at hr0
    subst hr0
    have hrow : i * a.P ≤ 1000000 := Nat.mul_le_mul (show i ≤ 1000 by omega) (show a.P ≤ 1000 by omega)
    obtain ⟨st, cmd, want, addr, inn, out, at', busy, f, asked, w⟩ := k
    obtain ⟨hbz, hask⟩ := hr
    simp only at hbz hask
    subst hbz; subst hask
    obtain ⟨H1, c1, c2, c3⟩ := o.command (by omega) 0
    have e1 : Bs.command a s ⟨st, cmd, want, addr, inn, out, at', 0, f, false, w⟩ 0 = (s, ⟨1, 0, 5, [], [], [], 0, 0, f, false, w⟩) := rfl
    rw [e1] at c2
    obtain ⟨H2, d1, d2, d3⟩ := c2.send 0 2 (by omega) (by omega) (by decide)
    have e2 : Bs.addrs a (leB 2 0) s ⟨1, 0, 5, [], [], [], 0, 0, f, false, w⟩ = (s, ⟨1, 0, 5, [0, 0], [], [], 0, 0, f, false, w⟩) := rfl
    rw [e2] at d2
    obtain ⟨H3, f1, f2, f3⟩ := d2.send (i * a.P + q) 3 (by omega) (by omega) (by decide)
    have e3 : Bs.addrs a (leB 3 (i * a.P + q)) s ⟨1, 0, 5, [0, 0], [], [], 0, 0, f, false, w⟩ = (s, ⟨3, 0, 5, [0, 0] ++ leB 3 (i * a.P + q), [], [], 0, 0, f, false, w⟩) := rfl
    rw [e3] at f2
    obtain ⟨H4, g1, g2, g3⟩ := f2.command (by omega) 48
    have hrw : (⟨3, 0, 5, [0, 0] ++ leB 3 (i * a.P + q), [], [], 0, 0, f, false, w⟩ : Bs).row = i * a.P + q := row_is [0, 0] (by omega)
    obtain ⟨dm1, dm2⟩ := dm_is i q a.P hq
    have hblk : (⟨3, 0, 5, [0, 0] ++ leB 3 (i * a.P + q), [], [], 0, 0, f, false, w⟩ : Bs).blk a = (i : Int) := by
      unfold Bs.blk
      rw [hrw, dm1]
    have hpg : (⟨3, 0, 5, [0, 0] ++ leB 3 (i * a.P + q), [], [], 0, 0, f, false, w⟩ : Bs).pg a = (q : Int) := by
      unfold Bs.pg
      rw [hrw, dm2]
    have het : s.readT a (i : Int) (q : Int) = ((s.read a i q).take a.S, (s.read a i q).drop a.S, 0, ()) := by
      unfold Nd.readT
      rw [if_neg (by simpa using he), Int.toNat_natCast, Int.toNat_natCast]
    have hrl := o.wf.fine.read i q
    have hgot : (⟨3, 0, 5, [0, 0] ++ leB 3 (i * a.P + q), [], [], 0, 0, f, false, w⟩ : Bs).got a s = s.read a i q := by
      unfold Bs.got
      rw [hblk, hpg, het]
      have hc : (⟨3, 0, 5, [0, 0] ++ leB 3 (i * a.P + q), [], [], 0, 0, f, false, w⟩ : Bs).col = 0 := rfl
      rw [hc]
      show (((s.read a i q).take a.S ++ (s.read a i q).drop a.S)).drop (min _ 0) = _
      rw [Nat.min_zero, List.drop_zero, List.take_append_drop]
    have e4 : Bs.command a s ⟨3, 0, 5, [0, 0] ++ leB 3 (i * a.P + q), [], [], 0, 0, f, false, w⟩ 48 = (s, ⟨4, 0, 5, [0, 0] ++ leB 3 (i * a.P + q), [], (⟨3, 0, 5, [0, 0] ++ leB 3 (i * a.P + q), [], [], 0, 0, f, false, w⟩ : Bs).got a s, 0, 3, !decide ((s.readT a ((⟨3, 0, 5, [0, 0] ++ leB 3 (i * a.P + q), [], [], 0, 0, f, false, w⟩ : Bs).blk a) ((⟨3, 0, 5, [0, 0] ++ leB 3 (i * a.P + q), [], [], 0, 0, f, false, w⟩ : Bs).pg a)).2.2.1 = 0), false, w⟩) := rfl
    rw [hgot, hblk, hpg, het] at e4
    rw [e4] at g2
    obtain ⟨H5, n', j1, j2, j3, j4⟩ := g2.wait (by omega)
    obtain ⟨H6, l1, l2, l3⟩ := j2.failed (by omega) rfl
    obtain ⟨H7, m1, m2, m3⟩ := l2.take (a.S + 32) (by omega) rfl rfl rfl rfl (by show a.S + 32 ≤ (s.read a i q).length; omega)
    have m1' : host_take (some (b, 0)) ((a.S + 32 : Nat) : Int) H6 = some ((s.read a i q, ()), H7) := by
      rw [m1]
      have : (s.read a i q).take (a.S + 32) = s.read a i q := List.take_of_length_le (by omega)
      exact congrArg (fun y => some ((y, ()), H7)) this
    have l1' : host_Host_failed (some (h, 0)) H5 = some ((false, ()), H6) := l1
    have hK : Keep (fun x => ¬ N x) H H7 := (((((c3.trans d3).trans f3).trans g3).trans j4).trans l3).trans m3
    refine ⟨H7, _, n', ?_, m2.le (by omega) (by omega), ⟨rfl, rfl⟩, hK⟩
    have hd1 : host_Host_send (some (h, 0)) 0 2 H1 = some ((), H2) := d1
    have hf1 : host_Host_send (some (h, 0)) ((i * a.P + q : Nat) : Int) 3 H2 = some ((), H3) := f1
    have hw : IntKind.wrap .i64 ((a.S : Int) + 32) = ((a.S + 32 : Nat) : Int) := by rw [wrap_i64 (by omega) (by omega)]; omega
    have s1 : subS (s.read a i q) 0 (a.S : Int) = some ((s.read a i q).take a.S) := by
      have := sub_of (s := s.read a i q) (lo := 0) (hi := a.S) (by omega) (by omega)
      rwa [List.drop_zero] at this
    have s2 : subS (s.read a i q) (a.S : Int) ((s.read a i q).length : Int) = some ((s.read a i q).drop a.S) := by
      have := sub_of (s := s.read a i q) (lo := a.S) (hi := (s.read a i q).length) (by omega) (Nat.le_refl _)
      rwa [List.take_length] at this
    rw [het]
    simp only [b1, bind_some, he, decide_true, Bool.not_true, cond_f, o.rb, c1, hd1, hf1, f2.rb, g1, j1, l1', l2.rb, l2.rS, hw, m1', m2.rS, s1, s2]
  · refine ⟨H, k, n, ?_, o.le (by omega) (by omega), hr, Keep.refl _ _⟩
    have het : s.readT a x p = ([], [], s.inE a x p, ()) := by
      unfold Nd.readT
      rw [if_pos he]
    rw [het]
    simp only [b1, bind_some, decide_eq_false he, Bool.not_false, cond_t]
end
end Ev
namespace Ev
open Go (IntKind)

def allFF (t : Bytes) : Bool := t.all fun u => u == 255
theorem byte_cell {H : Heap} {c : Nat} {t : Bytes} {bk : BK} (h : H[c]? = some (.cells (cellsOf t) bk)) {i : Nat} (hi : i < t.length) : rdI .u8 H c i = some ((t[i].toNat : Nat) : Int) := rdI_of h (by simp [cellsOf, hi])
theorem allFF_step (t : Bytes) {i : Nat} (hi : i < t.length) : allFF (t.drop i) = (t[i] == 255 && allFF (t.drop (i + 1))) := by
  unfold allFF
  rw [List.drop_eq_getElem_cons hi, List.all_cons]
theorem clean_bytes (r5 : (Bytes × Bytes × Int × Unit) × Heap) (t : Bytes) (ht : t.length < 100000) {G : Heap} (hc : G[r5.2.length]? = some (.cells (cellsOf t) .loose)) : loopW (host_Host_clean.s1 r5 t) (0, ()) G = some (if allFF t = true then .inl () else .inr (false, ()), G) := by
  obtain ⟨y, R, l1, l2⟩ := loop_rise (step := host_Host_clean.s1 r5 t) t.length (fun i z R => z = ((i : Int), ()) ∧ R = G ∧ allFF t = allFF (t.drop i)) (fun y R => y = (if allFF t = true then .inl () else .inr (false, ())) ∧ R = G)
    (by
      rintro i _ _ hi ⟨rfl, rfl, e⟩
      have hat : Sl.at 1 ⟨some (r5.2.length, 0), t.length, t.length⟩ (i : Int) = some (r5.2.length, i) := by rw [at_of (by omega) (by show (i : Int) < (t.length : Int); omega), Int.toNat_natCast, Nat.mul_one, Nat.zero_add]
      have hb := byte_cell hc hi
      have hs := allFF_step t hi
      by_cases h255 : t[i] = 255
      · refine .inl ⟨(((i + 1 : Nat) : Int), ()), _, ?_, rfl, rfl, ?_⟩
        · unfold host_Host_clean.s1
          have : decide (((t[i].toNat : Nat) : Int) = 255) = true := by rw [h255]; rfl
          simp only [decide_eq_true (show (i : Int) < (t.length : Int) by omega), cond_t, hat, bind_some, hb, this, Bool.not_true, cond_f, wrap_succ (show i < 9223372036854775807 by omega)]
        · rw [e, hs, h255]; rfl
      · have hf : allFF t = false := by
          rw [e, hs, beq_eq_false_iff_ne.2 h255]; rfl
        refine .inr ⟨.inr (false, ()), _, ?_, by rw [hf]; rfl, rfl⟩
        unfold host_Host_clean.s1
        have : decide (((t[i].toNat : Nat) : Int) = 255) = false := decide_eq_false fun hh => h255 (by
          have h2 : t[i].toNat = 255 := by omega
          exact UInt8.toNat_inj.1 h2)
        simp only [decide_eq_true (show (i : Int) < (t.length : Int) by omega), cond_t, hat, bind_some, hb, this, Bool.not_false])
    (by
      rintro _ _ ⟨rfl, rfl, e⟩
      refine ⟨.inl (), _, ?_, ?_, rfl⟩
      · unfold host_Host_clean.s1
        simp only [decide_eq_false (show ¬ (t.length : Int) < (t.length : Int) by omega), cond_f]
      · rw [e, List.drop_length]; rfl)
    (y := (((0 : Nat) : Int), ())) (H := G) ⟨rfl, rfl, by rw [List.drop_zero]⟩
  obtain ⟨rfl, rfl⟩ := l2
  exact l1
theorem allFF_full {a : NdA} {s : Nd} (hf : Fine a s) (i q : Nat) : allFF (s.read a i q) = true ↔ s.pages i q = [] := by
  constructor
  · intro hh
    by_cases he : s.pages i q = []
    · exact he
    · exfalso
      have h1 := (hf i q).resolve_left he
      have h2 : s.read a i q = s.pages i q := by unfold Nd.read; rw [if_neg he]
      rw [h2] at hh
      unfold allFF at hh
      apply h1.2
      unfold fullP
      refine List.eq_replicate_iff.2 ⟨h1.1, fun x hx => ?_⟩
      have := List.all_eq_true.1 hh x hx
      exact eq_of_beq this
  · intro he
    have h2 : s.read a i q = fullP a := by unfold Nd.read; rw [if_pos he]
    rw [h2]
    unfold allFF fullP
    exact List.all_eq_true.2 fun x hx => by rw [List.eq_of_mem_replicate hx]; rfl
section
variable {H : Heap} {N : Nat → Prop} {h b : Nat} {a : NdA} {s : Nd} {k : Bs} {T : Int} {n : Nat}
theorem Ho.clean (o : Ho H N h b a s k T n) (hr : Rest k) {i p : Nat} (hi : i < a.B) (hp : p < a.P) (ho : s.off = false) (hT : T + (a.P : Int) * ((a.S : Int) + 60) + 2000 < 999999) : ∃ H' k' n', host_Host_clean (some (h, 0)) (i : Int) (p : Int) H = some ((!s.used a i p, ()), H') ∧ Ho H' N h b a s k' (T + (a.P : Int) * ((a.S : Int) + 60)) n' ∧ Rest k' ∧ Keep (fun x => ¬ N x) H H' := by
  have hsz := o.wf.sz
  have hsm := o.wf.small
  have hfine := o.wf.fine
  have hmul : ∀ j : Nat, j ≤ a.P → (j : Int) * ((a.S : Int) + 60) ≤ (a.P : Int) * ((a.S : Int) + 60) := fun j hj => Int.mul_le_mul_of_nonneg_right (by omega) (by omega)
  obtain ⟨y, G, l1, k', n', hy, l2, l3, l4⟩ := loop_rise (step := host_Host_clean.s2 (some (h, 0)) (i : Int)) (a.P - p)
    (fun j t G => t = (((p + j : Nat) : Int), ()) ∧ ∃ k' n', Ho G N h b a s k' (T + (j : Int) * ((a.S : Int) + 60)) n' ∧ Rest k' ∧ Keep (fun x => ¬ N x) H G ∧ ∀ q, p ≤ q → q < p + j → s.pages i q = [])
    (fun x G => ∃ k' n', x = (if s.used a i p = true then .inr (false, ()) else .inl ()) ∧ Ho G N h b a s k' (T + (a.P : Int) * ((a.S : Int) + 60)) n' ∧ Rest k' ∧ Keep (fun x => ¬ N x) H G)
    (by
      rintro j _ G hj ⟨rfl, k', n', o', hr', kq, hq⟩
      have hm1 := hmul j (by omega)
      have hm2 := hmul (j + 1) (by omega)
      have hm3 : ((j + 1 : Nat) : Int) * ((a.S : Int) + 60) = (j : Int) * ((a.S : Int) + 60) + ((a.S : Int) + 60) := by
        rw [show ((j + 1 : Nat) : Int) = (j : Int) + 1 by omega, Int.add_mul, Int.one_mul]
      have hh0 : (0 : Int) ≤ (j : Int) * ((a.S : Int) + 60) := Int.mul_nonneg (by omega) (by omega)
      obtain ⟨G1, k1, n1, e1, e2, e3, e4⟩ := o'.read hr' (by omega) (i : Int) ((p + j : Nat) : Int)
      have h0 : s.inE a (i : Int) ((p + j : Nat) : Int) = 0 := by
        unfold Nd.inE
        rw [if_neg (by simp [ho]), if_neg (by omega)]
      have het : s.readT a (i : Int) ((p + j : Nat) : Int) = ((s.read a i (p + j)).take a.S, (s.read a i (p + j)).drop a.S, 0, ()) := by
        unfold Nd.readT
        rw [if_neg (by rw [h0]; simp), Int.toNat_natCast, Int.toNat_natCast]
      rw [het] at e1
      have hrl := hfine.read i (p + j)
      have hcat : catS ((s.read a i (p + j)).take a.S) ((s.read a i (p + j)).drop a.S) = some (s.read a i (p + j)) := by
        have := cat_of (a := (s.read a i (p + j)).take a.S) (b := (s.read a i (p + j)).drop a.S) (by rw [List.length_take, List.length_drop]; omega)
        rwa [List.take_append_drop] at this
      have hcl := clean_bytes (((s.read a i (p + j)).take a.S, (s.read a i (p + j)).drop a.S, 0, ()), G1) (s.read a i (p + j)) (by omega) (G := G1 ++ [.cells (cellsOf (s.read a i (p + j))) .loose]) app_last
      have o2 := e2.none (Keep.push (fun _ => False) G1 (.cells (cellsOf (s.read a i (p + j))) .loose))
      have kk : Keep (fun x => ¬ N x) H (G1 ++ [.cells (cellsOf (s.read a i (p + j))) .loose]) := (kq.trans e4).trans (Keep.push _ _ _)
      have hstep : ∀ X, host_Host_clean.s2 (some (h, 0)) (i : Int) (((p + j : Nat) : Int), ()) G = X ↔ (some (Sum.elim (fun (_ : Unit) => (Sum.inl ((((p + j + 1 : Nat) : Int), ()) : Int × Unit) : (Int × Unit) ⊕ (Unit ⊕ (Bool × Unit)))) (fun (z : Bool × Unit) => Sum.inr (Sum.inr (z.1, ()))) (if allFF (s.read a i (p + j)) = true then (.inl () : Unit ⊕ (Bool × Unit)) else .inr (false, ())), G1 ++ [.cells (cellsOf (s.read a i (p + j))) .loose])) = X := by
        intro X
        unfold host_Host_clean.s2
        simp only [bind_some, Nat.zero_add, o'.rP, decide_eq_true (show ((p + j : Nat) : Int) < (a.P : Int) by omega), cond_t, e1, decide_true, Bool.not_true, cond_f, hcat, hcl, wrap_succ (show p + j < 9223372036854775807 by omega)]
        cases allFF (s.read a i (p + j)) <;> exact Iff.rfl
      by_cases hff : allFF (s.read a i (p + j)) = true
      · refine .inl ⟨(((p + (j + 1) : Nat) : Int), ()), _, (hstep _).2 (by rw [if_pos hff]; rfl), rfl, k1, n1, ?_, e3, kk, fun q h1 h2 => ?_⟩
        · exact o2.le (by omega) (by omega)
        · by_cases hqe : q = p + j
          · rw [hqe]; exact (allFF_full hfine i (p + j)).1 hff
          · exact hq q h1 (by omega)
      · have hne : s.pages i (p + j) ≠ [] := fun hh => hff ((allFF_full hfine i (p + j)).2 hh)
        have hu : s.used a i p = true := by
          unfold Nd.used
          refine List.any_eq_true.2 ⟨p + j, List.mem_range.2 (by omega), ?_⟩
          rw [decide_eq_true (show p ≤ p + j by omega), decide_eq_true hne]; rfl
        exact .inr ⟨.inr (false, ()), _, (hstep _).2 (by rw [if_neg hff]; rfl), k1, n1, by rw [if_pos hu], o2.le (by omega) (by omega), e3, kk⟩)
    (by
      rintro _ G ⟨rfl, k', n', o', hr', kq, hq⟩
      have hm1 := hmul (a.P - p) (by omega)
      have hu : s.used a i p = false := by
        unfold Nd.used
        refine List.any_eq_false.2 fun q hq' => ?_
        have hqP := List.mem_range.1 hq'
        by_cases hpq : p ≤ q
        · rw [hq q hpq (by omega)]; simp
        · rw [decide_eq_false hpq]; simp
      refine ⟨.inl (), G, ?_, k', n', ?_, o'.le (by omega) (by omega), hr', kq⟩
      · unfold host_Host_clean.s2
        simp only [bind_some, Nat.zero_add, o'.rP, decide_eq_false (show ¬ ((p + (a.P - p) : Nat) : Int) < (a.P : Int) by omega), cond_f]
      · rw [hu]; rfl)
    (y := (((p + 0 : Nat) : Int), ())) ⟨rfl, k, n, by simpa using o, hr, Keep.refl _ _, fun q h1 h2 => absurd h2 (by omega)⟩
  refine ⟨G, k', n', ?_, l2, l3, l4⟩
  have l1' : loopW (host_Host_clean.s2 (some (h, 0)) (i : Int)) ((p : Int), ()) H = some (y, G) := l1
  unfold host_Host_clean
  simp only [l1', bind_some, hy]
  cases s.used a i p <;> rfl
/-- Bytes of a page, one behind the other. -/
theorem Ho.pour {addr : Bytes} {f : Bool} {w : Int} (o : Ho H N h b a s ⟨2, 128, 5, addr, [], [], 0, 0, f, false, w⟩ T n) (t : Bytes) (ht : t.length ≤ a.S + 32) (hT : T + 2000 < 999999) (r9 : (Unit × Unit) × Heap) (h9 : r9.2 = H) :
    ∃ G, loopW (host_Host_Program.s1 (some (h, 0)) ((), H) t) (0, ()) (H ++ [.cells (cellsOf t) .loose]) = some ((), G) ∧ Ho G N h b a s ⟨2, 128, 5, addr, t, [], 0, 0, f, false, w⟩ (T + (t.length : Int)) n ∧ Keep (fun x => ¬ N x) H G := by
  have hsz := o.wf.sz
  obtain ⟨y, G, l1, l2, l3⟩ := loop_rise (step := host_Host_Program.s1 (some (h, 0)) ((), H) t) t.length
    (fun i z G => z = ((i : Int), ()) ∧ Ho G (fun y => N y ∨ y = H.length) h b a s ⟨2, 128, 5, addr, t.take i, [], 0, 0, f, false, w⟩ (T + i) n ∧ G[H.length]? = some (.cells (cellsOf t) .loose) ∧ Keep (fun x => ¬ N x) H G)
    (fun _ G => Ho G N h b a s ⟨2, 128, 5, addr, t, [], 0, 0, f, false, w⟩ (T + (t.length : Int)) n ∧ Keep (fun x => ¬ N x) H G)
    (by
      rintro i _ G hi ⟨rfl, q, hc, kq⟩
      have hat : Sl.at 1 ⟨some (H.length, 0), t.length, t.length⟩ (i : Int) = some (H.length, i) := by rw [at_of (by omega) (by show (i : Int) < (t.length : Int); omega), Int.toNat_natCast, Nat.mul_one, Nat.zero_add]
      have hb := byte_cell hc hi
      obtain ⟨G1, e1, e2, e3⟩ := q.inn (by omega) t[i]
      have hlt : (t.take i).length = i := by rw [List.length_take]; omega
      have hin : Bs.inF a (⟨2, 128, 5, addr, t.take i, [], 0, 0, f, false, w⟩ : Bs) t[i] = ⟨2, 128, 5, addr, t.take (i + 1), [], 0, 0, f, false, w⟩ := by
        unfold Bs.inF
        have hd : decide (((a.S + 32 : Nat) : Int) ≤ ((t.take i).length : Int)) = false := decide_eq_false (by rw [hlt]; omega)
        simp only [hd, Bool.or_false, decide_true, Bool.not_true]
        rw [show decide (((2 : Nat) : Int) = 2) = true from rfl, Bool.not_true, show (false || false) = false from rfl, cond_f, List.take_add_one, List.getElem?_eq_getElem hi]
        rfl
      rw [hin] at e2
      refine .inl ⟨(((i + 1 : Nat) : Int), ()), G1, ?_, rfl, by rw [show T + ((i + 1 : Nat) : Int) = T + (i : Int) + 1 by omega]; exact e2, e3.get hc (fun hh => hh (.inr rfl)), kq.trans (e3.mono fun x hx hn => hx (.inl hn))⟩
      unfold host_Host_Program.s1
      simp only [decide_eq_true (show (i : Int) < (t.length : Int) by omega), cond_t, hat, bind_some, hb, q.rb, e1, wrap_succ (show i < 9223372036854775807 by omega)])
    (by
      rintro _ G ⟨rfl, q, hc, kq⟩
      refine ⟨(), G, ?_, ?_, kq⟩
      · unfold host_Host_Program.s1
        simp only [decide_eq_false (show ¬ (t.length : Int) < (t.length : Int) by omega), cond_f]
      · rw [List.take_length] at q
        exact q.less fun x hx => .inl hx)
    (y := (((0 : Nat) : Int), ())) ⟨rfl, by
      rw [List.take_zero, show T + ((0 : Nat) : Int) = T by omega]
      exact o.add _, app_last, Keep.push _ _ _⟩
  exact ⟨G, l1, l2, l3⟩
theorem Ho.program (o : Ho H N h b a s k T n) (hr : Rest k) (hT : T + (a.P : Int) * ((a.S : Int) + 60) + 4000 < 999999) (x p : Int) (d sp : Bytes) (hdl : d.length < 100000) (hsl : sp.length < 100000) :
    ∃ H' k' n', host_Host_Program (some (h, 0)) x p d sp H = some (((s.progT a x p d sp).1, ()), H') ∧ Ho H' N h b a (s.progT a x p d sp).2 k' (T + (a.P : Int) * ((a.S : Int) + 60) + (a.S : Int) + 50) n' ∧ Rest k' ∧ Keep (fun x => ¬ N x) H H' := by
  have hsz := o.wf.sz
  have hsm := o.wf.small
  have hm0 : (0 : Int) ≤ (a.P : Int) * ((a.S : Int) + 60) := Int.mul_nonneg (by omega) (by omega)
  obtain ⟨r, b1, b2⟩ := o.begin x p
  unfold host_Host_Program Nd.progT
  by_cases he : s.inE a x p = 0
  · rw [if_neg (by simpa using he)]
    obtain ⟨hoff, i, q, rfl, rfl, hi, hq⟩ := in_zero he
    have hr0 := b2 he
    rw [row_wrap (by omega) (by omega) (by omega)] at hr0
    subst hr0
    have hrow : i * a.P ≤ 1000000 := Nat.mul_le_mul (show i ≤ 1000 by omega) (show a.P ≤ 1000 by omega)
    by_cases hl : d.length ≠ a.S ∨ sp.length ≠ 32
    · rw [if_pos hl]
      refine ⟨H, k, n, ?_, o.le (by omega) (by omega), hr, Keep.refl _ _⟩
      by_cases h1 : d.length = a.S
      · have h2 : sp.length ≠ 32 := by omega
        simp only [b1, bind_some, he, decide_true, Bool.not_true, cond_f, o.rS, decide_eq_true (show (d.length : Int) = (a.S : Int) by omega), decide_eq_false (show ¬ (sp.length : Int) = 32 by omega), Bool.not_false, cond_t]
      · simp only [b1, bind_some, he, decide_true, Bool.not_true, cond_f, o.rS, decide_eq_false (show ¬ (d.length : Int) = (a.S : Int) by omega), Bool.not_false, cond_t]
    · rw [if_neg hl]
      have hd1 : d.length = a.S := by omega
      have hd2 : sp.length = 32 := by omega
      have z1 : decide ((d.length : Int) = (a.S : Int)) = true := decide_eq_true (by omega)
      have z2 : decide ((sp.length : Int) = 32) = true := decide_eq_true (by omega)
      obtain ⟨H0, k0, n0, a1, a2, a3, a4⟩ := o.clean hr hi hq hoff (by omega)
      rw [Int.toNat_natCast, Int.toNat_natCast]
      cases hu : s.used a i q with
      | true =>
        rw [hu] at a1
        refine ⟨H0, k0, n0, ?_, a2.le (by omega) (by omega), a3, a4⟩
        simp only [b1, bind_some, he, decide_true, Bool.not_true, cond_f, o.rS, z1, z2, a1, Bool.not_false, cond_t, if_true]
      | false =>
        rw [hu] at a1
        simp only [Bool.false_eq_true, if_false]
        obtain ⟨st, cmd, want, addr, inn, out, at', busy, f, asked, w⟩ := k0
        obtain ⟨hbz, hask⟩ := a3
        simp only at hbz hask
        subst hbz; subst hask
        obtain ⟨H1, c1, c2, c3⟩ := a2.command (by omega) 128
        have e1 : Bs.command a s ⟨st, cmd, want, addr, inn, out, at', 0, f, false, w⟩ 128 = (s, ⟨1, 128, 5, [], [], [], 0, 0, f, false, w⟩) := rfl
        rw [e1] at c2
        obtain ⟨H2, d1, d2, d3⟩ := c2.send 0 2 (by omega) (by omega) (by decide)
        have e2 : Bs.addrs a (leB 2 0) s ⟨1, 128, 5, [], [], [], 0, 0, f, false, w⟩ = (s, ⟨1, 128, 5, [0, 0], [], [], 0, 0, f, false, w⟩) := rfl
        rw [e2] at d2
        obtain ⟨H3, f1, f2, f3⟩ := d2.send (i * a.P + q) 3 (by omega) (by omega) (by decide)
        have e3 : Bs.addrs a (leB 3 (i * a.P + q)) s ⟨1, 128, 5, [0, 0], [], [], 0, 0, f, false, w⟩ = (s, ⟨2, 128, 5, [0, 0] ++ leB 3 (i * a.P + q), [], [], 0, 0, f, false, w⟩) := rfl
        rw [e3] at f2
        have hlen : (d ++ sp).length = a.S + 32 := by rw [List.length_append]; omega
        obtain ⟨G, u1, u2, u3⟩ := Ho.pour f2 (d ++ sp) (by omega) (by omega) (((), ()), H3) rfl
        obtain ⟨H4, g1, g2, g3⟩ := u2.command (by omega) 16
        have hrw : (⟨2, 128, 5, [0, 0] ++ leB 3 (i * a.P + q), d ++ sp, [], 0, 0, f, false, w⟩ : Bs).row = i * a.P + q := row_is [0, 0] (by omega)
        obtain ⟨dm1, dm2⟩ := dm_is i q a.P hq
        have hblk : (⟨2, 128, 5, [0, 0] ++ leB 3 (i * a.P + q), d ++ sp, [], 0, 0, f, false, w⟩ : Bs).blk a = (i : Int) := by
          unfold Bs.blk
          rw [hrw, dm1]
        have hpg : (⟨2, 128, 5, [0, 0] ++ leB 3 (i * a.P + q), d ++ sp, [], 0, 0, f, false, w⟩ : Bs).pg a = (q : Int) := by
          unfold Bs.pg
          rw [hrw, dm2]
        have hov : (⟨2, 128, 5, [0, 0] ++ leB 3 (i * a.P + q), d ++ sp, [], 0, 0, f, false, w⟩ : Bs).over a = d ++ sp := by
          unfold Bs.over
          have hc : (⟨2, 128, 5, [0, 0] ++ leB 3 (i * a.P + q), d ++ sp, [], 0, 0, f, false, w⟩ : Bs).col = 0 := rfl
          rw [hc]
          show List.replicate (min (a.S + 32) 0) 255 ++ (d ++ sp).take (min (d ++ sp).length (a.S + 32 - min (a.S + 32) 0)) ++ List.replicate (a.S + 32 - min (a.S + 32) 0 - min (d ++ sp).length (a.S + 32 - min (a.S + 32) 0)) 255 = d ++ sp
          rw [Nat.min_zero, Nat.sub_zero, hlen, Nat.min_self, Nat.sub_self, List.take_of_length_le (by omega)]
          simp
        have e4 : Bs.command a s ⟨2, 128, 5, [0, 0] ++ leB 3 (i * a.P + q), d ++ sp, [], 0, 0, f, false, w⟩ 16 = ((s.progT a ((⟨2, 128, 5, [0, 0] ++ leB 3 (i * a.P + q), d ++ sp, [], 0, 0, f, false, w⟩ : Bs).blk a) ((⟨2, 128, 5, [0, 0] ++ leB 3 (i * a.P + q), d ++ sp, [], 0, 0, f, false, w⟩ : Bs).pg a) (((⟨2, 128, 5, [0, 0] ++ leB 3 (i * a.P + q), d ++ sp, [], 0, 0, f, false, w⟩ : Bs).over a).take a.S) (((⟨2, 128, 5, [0, 0] ++ leB 3 (i * a.P + q), d ++ sp, [], 0, 0, f, false, w⟩ : Bs).over a).drop a.S)).2, ⟨0, 128, 5, [0, 0] ++ leB 3 (i * a.P + q), d ++ sp, [], 0, 7, !decide ((s.progT a ((⟨2, 128, 5, [0, 0] ++ leB 3 (i * a.P + q), d ++ sp, [], 0, 0, f, false, w⟩ : Bs).blk a) ((⟨2, 128, 5, [0, 0] ++ leB 3 (i * a.P + q), d ++ sp, [], 0, 0, f, false, w⟩ : Bs).pg a) (((⟨2, 128, 5, [0, 0] ++ leB 3 (i * a.P + q), d ++ sp, [], 0, 0, f, false, w⟩ : Bs).over a).take a.S) (((⟨2, 128, 5, [0, 0] ++ leB 3 (i * a.P + q), d ++ sp, [], 0, 0, f, false, w⟩ : Bs).over a).drop a.S)).1 = 0), false, w⟩) := rfl
        have het : s.progT a (i : Int) (q : Int) d sp = s.program a i q (d ++ sp) := by
          unfold Nd.progT
          rw [if_neg (by simpa using he), if_neg hl, Int.toNat_natCast, Int.toNat_natCast, hu]
          rfl
        rw [hov, hblk, hpg, List.take_left' hd1, List.drop_left' hd1, het] at e4
        rw [e4] at g2
        obtain ⟨H5, n', j1, j2, j3, j4⟩ := g2.wait (by omega)
        obtain ⟨H6, l1, l2, l3⟩ := j2.failed (by omega) rfl
        have hK : Keep (fun x => ¬ N x) H H6 := (((((((a4.trans c3).trans d3).trans f3).trans u3).trans g3).trans j4).trans l3)
        refine ⟨H6, _, n', ?_, l2.le (by rw [hlen]; omega) (by omega), ⟨rfl, rfl⟩, hK⟩
        have hd1' : host_Host_send (some (h, 0)) 0 2 H1 = some ((), H2) := d1
        have hf1 : host_Host_send (some (h, 0)) ((i * a.P + q : Nat) : Int) 3 H2 = some ((), H3) := f1
        have hcat := cat_of (a := d) (b := sp) (by omega)
        have hwhy := l2.why 53
        simp only [b1, bind_some, he, decide_true, Bool.not_true, cond_f, o.rS, z1, z2, a1, Bool.not_false, a2.rb, c1, hd1', hf1, hcat, u1, u2.rb, g1, j1, l1]
        rcases prog_res (a := a) (i := i) (q := q) (t := d ++ sp) hoff with h0 | ⟨h1, h2⟩ | ⟨h1, h2⟩
        · simp only [h0, decide_true, Bool.not_true, cond_f]
        · simp only [h1, show decide ((51 : Int) = 0) = false from rfl, Bool.not_false, cond_t, hwhy, h2, if_true, bind_some]
        · simp only [h1, show decide ((53 : Int) = 0) = false from rfl, Bool.not_false, cond_t, hwhy, h2, Bool.false_eq_true, if_false, bind_some]
  · rw [if_pos he]
    refine ⟨H, k, n, ?_, o.le (by omega) (by omega), hr, Keep.refl _ _⟩
    simp only [b1, bind_some, decide_eq_false he, Bool.not_false, cond_t]
end
end Ev
