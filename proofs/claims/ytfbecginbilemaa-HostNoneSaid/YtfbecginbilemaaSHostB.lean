/- The host: bytes that are told; erasing; marking. -/
import Derived.Test.YtfbecginbilemaaSHost
namespace Ev
open Go (IntKind)

theorem arr_u8 : ∀ n : Nat, arrC n (fun _ => [C.int .u8 0]) = cellsOf (List.replicate n 0)
  | 0 => rfl
  | n + 1 => by
    rw [arrC, arr_u8 n, List.replicate_succ', cells_app]; rfl
theorem mkS_u8 {H : Heap} {n : Nat} (h : n ≤ 35184372088832) : mkS H 1 [.int .u8 0] (n : Int) (n : Int) = some (⟨some (H.length, 0), n, n⟩, H ++ [.cells (cellsOf (List.replicate n 0)) .exact]) := by
  rw [mkS_of (by omega) h, arr_u8]
/-- Nothing is under way. -/
structure Rest (k : Bs) : Prop where
  busy : k.busy = 0
  asked : k.asked = false
section
variable {g : Geo} {H : Heap} {N : Nat → Prop} {h b : Nat} {a : NdA} {s : Nd} {k : Bs} {T : Int} {n : Nat}
theorem Hg.NL (o : Hg g H N h b a s k T n) {x : Nat} (hx : N x) : x < H.length := by
  obtain ⟨⟨⟨sa, si, hb⟩, _, _⟩, _, _⟩ := o
  exact hb.fl x (.inl hx)
theorem ofNat_toNat (u : UInt8) : UInt8.ofNat u.toNat = u := by simp
theorem Hg.take (o : Hg g H N h b a s k T n) (m : Nat) (hT : T + m < 999999) (h1 : k.asked = false) (h2 : k.busy = 0) (h3 : k.st = 4) (h4 : k.at' = 0) (hm : m ≤ k.out.length) :
    ∃ H', host_take (some (b, 0)) (m : Int) H = some ((k.out.take m, ()), H') ∧ Hg g H' N h b a s { k with at' := m } (T + m) n ∧ Keep (fun x => ¬ N x) H H' := by
  have hsm := o.wf.small
  have hdd := o.wf.did
  have hmk := mkS_u8 (H := H) (n := m) (by omega)
  have nl : ¬ N H.length := fun hh => by have := o.NL hh; omega
  obtain ⟨y, G, l1, l2, l3, l4⟩ := loop_rise (step := host_take.s1 (some (b, 0)) (⟨some (H.length, 0), m, m⟩, H ++ [.cells (cellsOf (List.replicate m 0)) .exact])) m
    (fun i t G => t = ((i : Int), ()) ∧ Hg g G (fun y => N y ∨ y = H.length) h b a s { k with at' := i } (T + i) n ∧ G[H.length]? = some (.cells (cellsOf (k.out.take i ++ List.replicate (m - i) 0)) .exact) ∧ Keep (fun x => ¬ N x) H G)
    (fun _ G => Hg g G (fun y => N y ∨ y = H.length) h b a s { k with at' := m } (T + m) n ∧ G[H.length]? = some (.cells (cellsOf (k.out.take m)) .exact) ∧ Keep (fun x => ¬ N x) H G)
    (by
      rintro i _ G hi ⟨rfl, q, hc, kq⟩
      obtain ⟨G1, o1, o2, o3⟩ := q.out (by omega)
      have hlt : i < k.out.length := by omega
      have ho : ({ k with at' := i } : Bs).outF = ((((k.out[i]'hlt).toNat : Nat) : Int), { k with at' := i + 1 }) := by
        unfold Bs.outF
        simp only [h1, h2, h3, cond_f, decide_true, Bool.not_true, Bool.or_false]
        rw [show decide (((4 : Nat) : Int) = 4) = true from rfl, Bool.not_true, show (false || false) = false from rfl, cond_f, dif_pos hlt]
      rw [ho] at o1 o2
      have c1 := o3.get hc (fun hh => hh (.inr rfl))
      have hat : Sl.at 1 ⟨some (H.length, 0), m, m⟩ (i : Int) = some (H.length, i) := by rw [at_of (by omega) (by show (i : Int) < (m : Int); omega), Int.toNat_natCast, Nat.mul_one, Nat.zero_add]
      have hln : (k.out.take i).length = i := by rw [List.length_take]; omega
      have w1 := wr_of (o := i) (new := [.int .u8 (((k.out[i]'hlt).toNat : Nat) : Int)]) c1 (by decide) (by rw [cells_len, List.length_append, hln, List.length_replicate]; show i + 1 ≤ _; omega)
      have hset : setL (cellsOf (k.out.take i ++ List.replicate (m - i) 0)) i [.int .u8 (((k.out[i]'hlt).toNat : Nat) : Int)] = cellsOf (k.out.take (i + 1) ++ List.replicate (m - (i + 1)) 0) := by
        rw [show m - i = (m - (i + 1)) + 1 by omega, List.replicate_succ, List.take_add_one, List.getElem?_eq_getElem hlt, cells_app]
        have := setL_mid [.int .u8 (((k.out[i]'hlt).toNat : Nat) : Int)] [.int .u8 0] (cellsOf (k.out.take i)) (cellsOf (List.replicate (m - (i + 1)) 0)) i (by rw [cells_len, hln]) rfl
        rw [List.append_assoc, List.append_assoc] at this
        refine this.trans ?_
        rw [List.append_assoc, cells_app]
        rfl
      rw [hset] at w1
      have kp : Keep (fun x => x = H.length) G1 (G1.set H.length (.cells (cellsOf (k.out.take (i + 1) ++ List.replicate (m - (i + 1)) 0)) .exact)) := Keep.set _ _ _ rfl
      refine .inl ⟨(((i + 1 : Nat) : Int), ()), _, ?_, rfl, ?_, set_get (get_lt c1), (kq.trans (o3.mono fun x hx hn => hx (.inl hn))).trans (kp.mono fun x hx hn => nl (hx ▸ hn))⟩
      · unfold host_take.s1
        simp only [decide_eq_true (show (i : Int) < (m : Int) by omega), cond_t, o1, bind_some, hat, w1, wrap_succ (show i < 9223372036854775807 by omega)]
      · rw [show T + ((i + 1 : Nat) : Int) = T + (i : Int) + 1 by omega]
        exact o2.far kp fun x hx => .inr hx)
    (by
      rintro _ G ⟨rfl, q, hc, kq⟩
      refine ⟨(), G, ?_, q, ?_, kq⟩
      · unfold host_take.s1
        simp only [decide_eq_false (show ¬ (m : Int) < (m : Int) by omega), cond_f]
      · rw [hc, Nat.sub_self, show List.replicate 0 (0 : UInt8) = [] from rfl, List.append_nil])
    (y := (((0 : Nat) : Int), ())) ⟨rfl, (by
      have e : ({ k with at' := 0 } : Bs) = k := by cases k; simp only at h4; subst h4; rfl
      rw [e, show T + ((0 : Nat) : Int) = T by omega]
      exact o.add _), app_last, Keep.push _ _ _⟩
  have l1' : loopW (host_take.s1 (some (b, 0)) (⟨some (H.length, 0), m, m⟩, H ++ [.cells (cellsOf (List.replicate m 0)) .exact])) (0, ()) (H ++ [.cells (cellsOf (List.replicate m 0)) .exact]) = some (y, G) := l1
  have hlm : (k.out.take m).length = m := by rw [List.length_take]; omega
  have hst : strOf G ⟨some (H.length, 0), m, m⟩ = some (k.out.take m) := strOf_of l3 (by rw [cells_len, hlm]; omega) (by
    rw [List.drop_zero, List.take_of_length_le]; rw [cells_len, hlm]; exact Nat.le_refl _)
  refine ⟨G, ?_, l2.less fun x hx => .inl hx, l4⟩
  unfold host_take
  simp only [hmk, bind_some, l1', hst]

theorem row_3 {r P i : Nat} {w : Int} {st : Nat} {cmd want : Int} {inn out : Bytes} {at' busy : Nat} {f q : Bool} (pre : Bytes) (hr : r < 16777216) (hP : 0 < P) (hi : r = i * P) : (⟨st, cmd, want, pre ++ leB 3 r, inn, out, at', busy, f, q, w⟩ : Bs).row / P = i := by
  have : (⟨st, cmd, want, pre ++ leB 3 r, inn, out, at', busy, f, q, w⟩ : Bs).row = r := by
    show valB ((pre ++ leB 3 r).drop ((pre ++ leB 3 r).length - 3)) = r
    rw [List.length_append, leB_length, Nat.add_sub_cancel, List.drop_left, valB_leB 3 r hr]
  rw [this, hi, Nat.mul_div_cancel _ hP]
theorem erase_res {a : NdA} {s : Nd} {i : Nat} (ho : s.off = false) : (s.erase a i).1 = 0 ∨ ((s.erase a i).1 = 51 ∧ (s.erase a i).2.off = true) ∨ ((s.erase a i).1 = 54 ∧ (s.erase a i).2.off = false) := by
  unfold Nd.erase
  cases hc : s.cutNow with
  | some x =>
    right; left
    refine ⟨rfl, ?_⟩
    simp only
    split
    · show (s.off || s.cutNow.isSome) = true
      rw [hc]; simp
    · show (s.off || s.cutNow.isSome) = true
      rw [hc]; simp
  | none =>
    simp only
    split
    · right; right
      refine ⟨rfl, ?_⟩
      show (s.off || s.cutNow.isSome) = false
      rw [hc, ho]; rfl
    · exact .inl rfl
theorem mark_res {s : Nd} {i : Nat} : (s.domark i).1 = 0 ∨ ((s.domark i).1 = 51 ∧ (s.domark i).2.off = true) := by
  unfold Nd.domark
  cases hc : s.cutNow with
  | some x =>
    right
    refine ⟨rfl, ?_⟩
    simp only
    split
    · show (s.off || s.cutNow.isSome) = true
      rw [hc]; simp
    · show (s.off || s.cutNow.isSome) = true
      rw [hc]; simp
  | none => exact .inl rfl
theorem prog_res {a : NdA} {s : Nd} {i q : Nat} {t : Bytes} (ho : s.off = false) : (s.program a i q t).1 = 0 ∨ ((s.program a i q t).1 = 51 ∧ (s.program a i q t).2.off = true) ∨ ((s.program a i q t).1 = 53 ∧ (s.program a i q t).2.off = false) := by
  unfold Nd.program
  cases hc : s.cutNow with
  | some x =>
    right; left
    refine ⟨rfl, ?_⟩
    show (s.off || s.cutNow.isSome) = true
    rw [hc]; simp
  | none =>
    simp only
    split
    · right; right
      refine ⟨rfl, ?_⟩
      show (s.off || s.cutNow.isSome) = false
      rw [hc, ho]; rfl
    · exact .inl rfl
theorem rest_addrs3 (a : NdA) (s : Nd) (x y z : UInt8) (f : Bool) (w : Int) : Bs.addrs a [x, y, z] s ⟨1, 96, 3, [], [], [], 0, 0, f, false, w⟩ = (s, ⟨3, 96, 3, [x, y, z], [], [], 0, 0, f, false, w⟩) := rfl
theorem row_wrap {i P q : Nat} (hi : i ≤ 1000) (hP : P ≤ 1000) (hq : q ≤ 1000) : IntKind.wrap .i64 (IntKind.wrap .i64 ((i : Int) * (P : Int)) + (q : Int)) = ((i * P + q : Nat) : Int) := by
  have hb : i * P ≤ 1000000 := Nat.mul_le_mul hi hP
  have e1 : IntKind.wrap .i64 ((i : Int) * (P : Int)) = ((i * P : Nat) : Int) := by rw [← Int.natCast_mul]; generalize i * P = m at hb; exact wrap_i64 (by omega) (by omega)
  rw [e1]
  generalize i * P = m at hb
  rw [wrap_i64 (by omega) (by omega)]; omega
theorem Ho.erase (o : Ho H N h b a s k T n) (hr : Rest k) (hT : T + 20 < 999999) (x : Int) : ∃ H' k' n', host_Host_Erase (some (h, 0)) x H = some (((s.eraseT a x).1, ()), H') ∧ Ho H' N h b a (s.eraseT a x).2 k' (T + 10) n' ∧ Rest k' ∧ Keep (fun x => ¬ N x) H H' := by
  have hsz := o.wf.sz
  have hsm := o.wf.small
  obtain ⟨r, b1, b2⟩ := o.begin x 0
  unfold host_Host_Erase Nd.eraseT
  by_cases he : s.inE a x 0 = 0
  · rw [if_neg (by simpa using he)]
    obtain ⟨hoff, i, q, rfl, hq0, hi, hq⟩ := in_zero he
    have hr0 := b2 he
    have hq00 : q = 0 := by omega
    rw [show (0 : Int) = ((0 : Nat) : Int) from rfl, row_wrap (by omega) (by omega) (by omega), Nat.add_zero] at hr0
    subst hr0
    have hrow : i * a.P ≤ 1000000 := Nat.mul_le_mul (show i ≤ 1000 by omega) (show a.P ≤ 1000 by omega)
    obtain ⟨st, cmd, want, addr, inn, out, at', busy, f, asked, w⟩ := k
    obtain ⟨hbz, hask⟩ := hr
    simp only at hbz hask
    subst hbz; subst hask
    obtain ⟨H1, c1, c2, c3⟩ := o.command (by omega) 96
    have e1 : Bs.command a s ⟨st, cmd, want, addr, inn, out, at', 0, f, false, w⟩ 96 = (s, ⟨1, 96, 3, [], [], [], 0, 0, f, false, w⟩) := rfl
    rw [e1] at c2
    obtain ⟨H2, d1, d2, d3⟩ := c2.send (i * a.P) 3 (by omega) (by omega) (by decide)
    have e2 : Bs.addrs a (leB 3 (i * a.P)) s ⟨1, 96, 3, [], [], [], 0, 0, f, false, w⟩ = (s, ⟨3, 96, 3, leB 3 (i * a.P), [], [], 0, 0, f, false, w⟩) := rfl
    rw [e2] at d2
    obtain ⟨H3, f1, f2, f3⟩ := d2.command (by omega) 208
    have hblk : (⟨3, 96, 3, leB 3 (i * a.P), [], [], 0, 0, f, false, w⟩ : Bs).blk a = (i : Int) := by
      exact congrArg (fun n : Nat => (n : Int)) (row_3 (st := 3) (cmd := 96) (want := 3) (inn := []) (out := []) (at' := 0) (busy := 0) (f := f) (q := false) (w := w) (i := i) (P := a.P) (r := i * a.P) [] (by omega) (by omega) rfl)
    have e3 : Bs.command a s ⟨3, 96, 3, leB 3 (i * a.P), [], [], 0, 0, f, false, w⟩ 208 = ((s.eraseT a ((⟨3, 96, 3, leB 3 (i * a.P), [], [], 0, 0, f, false, w⟩ : Bs).blk a)).2, ⟨0, 96, 3, leB 3 (i * a.P), [], [], 0, 15, !decide ((s.eraseT a ((⟨3, 96, 3, leB 3 (i * a.P), [], [], 0, 0, f, false, w⟩ : Bs).blk a)).1 = 0), false, w⟩) := rfl
    rw [hblk] at e3
    have het : s.eraseT a (i : Int) = s.erase a i := by
      unfold Nd.eraseT
      rw [if_neg (by simpa using he), Int.toNat_natCast]
    rw [e3, het] at f2
    obtain ⟨H4, n', g1, g2, g3, g4⟩ := f2.wait (by omega)
    obtain ⟨H5, j1, j2, j3⟩ := g2.failed (by omega) rfl
    rw [Int.toNat_natCast]
    have hK : Keep (fun x => ¬ N x) H H5 := (((c3.trans d3).trans f3).trans g4).trans j3
    refine ⟨H5, _, n', ?_, j2.le (by omega) (by omega), ⟨rfl, rfl⟩, hK⟩
    have hwhy := j2.why 54
    have hd3 : host_Host_send (some (h, 0)) ((i * a.P : Nat) : Int) 3 H1 = some ((), H2) := d1
    simp only [b1, bind_some, he, decide_true, Bool.not_true, cond_f, o.rb, c1, hd3, d2.rb, f1, g1, j1]
    rcases erase_res (a := a) (i := i) hoff with h0 | ⟨h1, h2⟩ | ⟨h1, h2⟩
    · simp only [h0, decide_true, Bool.not_true, cond_f]
    · simp only [h1, show decide ((51 : Int) = 0) = false from rfl, Bool.not_false, cond_t, hwhy, h2, if_true, bind_some]
    · simp only [h1, show decide ((54 : Int) = 0) = false from rfl, Bool.not_false, cond_t, hwhy, h2, Bool.false_eq_true, if_false, bind_some]
  · rw [if_pos he]
    refine ⟨H, k, n, ?_, o.le (by omega) (by omega), hr, Keep.refl _ _⟩
    simp only [b1, bind_some, decide_eq_false he, Bool.not_false, cond_t]
theorem Ho.mark (o : Ho H N h b a s k T n) (hr : Rest k) (hT : T + 20 < 999999) (x : Int) : ∃ H' k' n', host_Host_Mark (some (h, 0)) x H = some (((s.markT a x).1, ()), H') ∧ Ho H' N h b a (s.markT a x).2 k' (T + 10) n' ∧ Rest k' ∧ Keep (fun x => ¬ N x) H H' := by
  have hsz := o.wf.sz
  have hsm := o.wf.small
  obtain ⟨r, b1, b2⟩ := o.begin x 0
  unfold host_Host_Mark Nd.markT
  by_cases he : s.inE a x 0 = 0
  · rw [if_neg (by simpa using he)]
    obtain ⟨hoff, i, q, rfl, hq0, hi, hq⟩ := in_zero he
    have hr0 := b2 he
    rw [show (0 : Int) = ((0 : Nat) : Int) from rfl, row_wrap (by omega) (by omega) (by omega), Nat.add_zero] at hr0
    subst hr0
    have hrow : i * a.P ≤ 1000000 := Nat.mul_le_mul (show i ≤ 1000 by omega) (show a.P ≤ 1000 by omega)
    obtain ⟨st, cmd, want, addr, inn, out, at', busy, f, asked, w⟩ := k
    obtain ⟨hbz, hask⟩ := hr
    simp only at hbz hask
    subst hbz; subst hask
    obtain ⟨H1, c1, c2, c3⟩ := o.command (by omega) 160
    have e1 : Bs.command a s ⟨st, cmd, want, addr, inn, out, at', 0, f, false, w⟩ 160 = (s, ⟨1, 160, 3, [], [], [], 0, 0, f, false, w⟩) := rfl
    rw [e1] at c2
    obtain ⟨H2, d1, d2, d3⟩ := c2.send (i * a.P) 3 (by omega) (by omega) (by decide)
    have hblk : (⟨3, 160, 3, leB 3 (i * a.P), [], [], 0, 0, f, false, w⟩ : Bs).blk a = (i : Int) := by
      exact congrArg (fun n : Nat => (n : Int)) (row_3 (st := 3) (cmd := 160) (want := 3) (inn := []) (out := []) (at' := 0) (busy := 0) (f := f) (q := false) (w := w) (i := i) (P := a.P) (r := i * a.P) [] (by omega) (by omega) rfl)
    have e2 : Bs.addrs a (leB 3 (i * a.P)) s ⟨1, 160, 3, [], [], [], 0, 0, f, false, w⟩ = ((s.markT a ((⟨3, 160, 3, leB 3 (i * a.P), [], [], 0, 0, f, false, w⟩ : Bs).blk a)).2, ⟨0, 160, 3, leB 3 (i * a.P), [], [], 0, 7, !decide ((s.markT a ((⟨3, 160, 3, leB 3 (i * a.P), [], [], 0, 0, f, false, w⟩ : Bs).blk a)).1 = 0), false, w⟩) := rfl
    rw [hblk] at e2
    have het : s.markT a (i : Int) = s.domark i := by
      unfold Nd.markT
      rw [if_neg (by simpa using he), Int.toNat_natCast]
    rw [e2, het] at d2
    obtain ⟨H4, n', g1, g2, g3, g4⟩ := d2.wait (by omega)
    obtain ⟨H5, j1, j2, j3⟩ := g2.failed (by omega) rfl
    rw [Int.toNat_natCast]
    have hK : Keep (fun x => ¬ N x) H H5 := ((c3.trans d3).trans g4).trans j3
    refine ⟨H5, _, n', ?_, j2.le (by omega) (by omega), ⟨rfl, rfl⟩, hK⟩
    have hwhy := j2.why 53
    have hd3 : host_Host_send (some (h, 0)) ((i * a.P : Nat) : Int) 3 H1 = some ((), H2) := d1
    simp only [b1, bind_some, he, decide_true, Bool.not_true, cond_f, o.rb, c1, hd3, g1, j1]
    rcases mark_res (s := s) (i := i) with h0 | ⟨h1, h2⟩
    · simp only [h0, decide_true, Bool.not_true, cond_f]
    · simp only [h1, show decide ((51 : Int) = 0) = false from rfl, Bool.not_false, cond_t, hwhy, h2, if_true, bind_some]
  · rw [if_pos he]
    refine ⟨H, k, n, ?_, o.le (by omega) (by omega), hr, Keep.refl _ _⟩
    simp only [b1, bind_some, decide_eq_false he, Bool.not_false, cond_t]
end
end Ev
