/- The host: writing. -/
import Derived.Test.YtfbecginbilemaaSHostC
namespace Ev
open Go (IntKind)

def allFF (t : Bytes) : Bool := t.all fun u => u == 255
theorem byte_cell {H : Heap} {c : Nat} {t : Bytes} {bk : BK} (h : H[c]? = some (.cells (cellsOf t) bk)) {i : Nat} (hi : i < t.length) : rdI .u8 H c i = some ((t[i].toNat : Nat) : Int) := rdI_of h (by simp [cellsOf, hi])
theorem allFF_step (t : Bytes) {i : Nat} (hi : i < t.length) : allFF (t.drop i) = (t[i] == 255 && allFF (t.drop (i + 1))) := by
  unfold allFF
  rw [List.drop_eq_getElem_cons hi, List.all_cons]
theorem clean_bytes (r5 : (Bytes × Bytes × Int × Unit) × Heap) (t : Bytes) (ht : t.length < 100000) {G : Heap} (hc : G[r5.2.length]? = some (.cells (cellsOf t) .loose)) : loopW (host_Host_clean.s1 r5 t) (0, ()) G = some (if allFF t = true then .inl () else .inr (false, ()), G) := by
  obtain ⟨y, R, l1, l2⟩ := loop_rise (step := host_Host_clean.s1 r5 t) t.length (fun i z R => z = ((i : Int), ()) ∧ R = G ∧ allFF t = allFF (t.drop i)) (fun y R => y = (if allFF t = true then .inl () else .inr (false, ())) ∧ R = G)
    (by
      rintro i _ _ hi ⟨rfl, rfl, e⟩
      have hat : Sl.at 1 ⟨some (r5.2.length, 0), t.length, t.length⟩ (i : Int) = some (r5.2.length, i) := by rw [at_of (by omega) (by show (i : Int) < (t.length : Int); omega), Int.toNat_natCast, Nat.mul_one, Nat.zero_add]
      have hb := byte_cell hc hi
      have hs := allFF_step t hi
      by_cases h255 : t[i] = 255
      · refine .inl ⟨(((i + 1 : Nat) : Int), ()), _, ?_, rfl, rfl, ?_⟩
        · unfold host_Host_clean.s1
          have : decide (((t[i].toNat : Nat) : Int) = 255) = true := by rw [h255]; rfl
          simp only [decide_eq_true (show (i : Int) < (t.length : Int) by omega), cond_t, hat, bind_some, hb, this, Bool.not_true, cond_f, wrap_succ (show i < 9223372036854775807 by omega)]
        · rw [e, hs, h255]; rfl
      · have hf : allFF t = false := by
          rw [e, hs, beq_eq_false_iff_ne.2 h255]; rfl
        refine .inr ⟨.inr (false, ()), _, ?_, by rw [hf]; rfl, rfl⟩
        unfold host_Host_clean.s1
        have : decide (((t[i].toNat : Nat) : Int) = 255) = false := decide_eq_false fun hh => h255 (by
          have h2 : t[i].toNat = 255 := by omega
          exact UInt8.toNat_inj.1 h2)
        simp only [decide_eq_true (show (i : Int) < (t.length : Int) by omega), cond_t, hat, bind_some, hb, this, Bool.not_false])
    (by
      rintro _ _ ⟨rfl, rfl, e⟩
      refine ⟨.inl (), _, ?_, ?_, rfl⟩
      · unfold host_Host_clean.s1
        simp only [decide_eq_false (show ¬ (t.length : Int) < (t.length : Int) by omega), cond_f]
      · rw [e, List.drop_length]; rfl)
    (y := (((0 : Nat) : Int), ())) (H := G) ⟨rfl, rfl, by rw [List.drop_zero]⟩
  obtain ⟨rfl, rfl⟩ := l2
  exact l1
theorem allFF_full {a : NdA} {s : Nd} (hf : Fine a s) (i q : Nat) : allFF (s.read a i q) = true ↔ s.pages i q = [] := by
  constructor
  · intro hh
    by_cases he : s.pages i q = []
    · exact he
    · exfalso
      have h1 := (hf i q).resolve_left he
      have h2 : s.read a i q = s.pages i q := by unfold Nd.read; rw [if_neg he]
      rw [h2] at hh
      unfold allFF at hh
      apply h1.2
      unfold fullP
      refine List.eq_replicate_iff.2 ⟨h1.1, fun x hx => ?_⟩
      have := List.all_eq_true.1 hh x hx
      exact eq_of_beq this
  · intro he
    have h2 : s.read a i q = fullP a := by unfold Nd.read; rw [if_pos he]
    rw [h2]
    unfold allFF fullP
    exact List.all_eq_true.2 fun x hx => by rw [List.eq_of_mem_replicate hx]; rfl
section
variable {H : Heap} {N : Nat → Prop} {h b : Nat} {a : NdA} {s : Nd} {k : Bs} {T : Int} {n : Nat}
theorem Ho.clean (o : Ho H N h b a s k T n) (hr : Rest k) {i p : Nat} (hi : i < a.B) (hp : p < a.P) (ho : s.off = false) (hT : T + (a.P : Int) * ((a.S : Int) + 60) + 2000 < 999999) : ∃ H' k' n', host_Host_clean (some (h, 0)) (i : Int) (p : Int) H = some ((!s.used a i p, ()), H') ∧ Ho H' N h b a s k' (T + (a.P : Int) * ((a.S : Int) + 60)) n' ∧ Rest k' ∧ Keep (fun x => ¬ N x) H H' := by
  have hsz := o.wf.sz
  have hsm := o.wf.small
  have hfine := o.wf.fine
  have hmul : ∀ j : Nat, j ≤ a.P → (j : Int) * ((a.S : Int) + 60) ≤ (a.P : Int) * ((a.S : Int) + 60) := fun j hj => Int.mul_le_mul_of_nonneg_right (by omega) (by omega)
  obtain ⟨y, G, l1, k', n', hy, l2, l3, l4⟩ := loop_rise (step := host_Host_clean.s2 (some (h, 0)) (i : Int)) (a.P - p)
    (fun j t G => t = (((p + j : Nat) : Int), ()) ∧ ∃ k' n', Ho G N h b a s k' (T + (j : Int) * ((a.S : Int) + 60)) n' ∧ Rest k' ∧ Keep (fun x => ¬ N x) H G ∧ ∀ q, p ≤ q → q < p + j → s.pages i q = [])
    (fun x G => ∃ k' n', x = (if s.used a i p = true then .inr (false, ()) else .inl ()) ∧ Ho G N h b a s k' (T + (a.P : Int) * ((a.S : Int) + 60)) n' ∧ Rest k' ∧ Keep (fun x => ¬ N x) H G)
    (by
      rintro j _ G hj ⟨rfl, k', n', o', hr', kq, hq⟩
      have hm1 := hmul j (by omega)
      have hm2 := hmul (j + 1) (by omega)
      have hm3 : ((j + 1 : Nat) : Int) * ((a.S : Int) + 60) = (j : Int) * ((a.S : Int) + 60) + ((a.S : Int) + 60) := by
        rw [show ((j + 1 : Nat) : Int) = (j : Int) + 1 by omega, Int.add_mul, Int.one_mul]
      have hh0 : (0 : Int) ≤ (j : Int) * ((a.S : Int) + 60) := Int.mul_nonneg (by omega) (by omega)
      obtain ⟨G1, k1, n1, e1, e2, e3, e4⟩ := o'.read hr' (by omega) (i : Int) ((p + j : Nat) : Int)
      have h0 : s.inE a (i : Int) ((p + j : Nat) : Int) = 0 := by
        unfold Nd.inE
        rw [if_neg (by simp [ho]), if_neg (by omega)]
      have het : s.readT a (i : Int) ((p + j : Nat) : Int) = ((s.read a i (p + j)).take a.S, (s.read a i (p + j)).drop a.S, 0, ()) := by
        unfold Nd.readT
        rw [if_neg (by rw [h0]; simp), Int.toNat_natCast, Int.toNat_natCast]
      rw [het] at e1
      have hrl := hfine.read i (p + j)
      have hcat : catS ((s.read a i (p + j)).take a.S) ((s.read a i (p + j)).drop a.S) = some (s.read a i (p + j)) := by
        have := cat_of (a := (s.read a i (p + j)).take a.S) (b := (s.read a i (p + j)).drop a.S) (by rw [List.length_take, List.length_drop]; omega)
        rwa [List.take_append_drop] at this
      have hcl := clean_bytes (((s.read a i (p + j)).take a.S, (s.read a i (p + j)).drop a.S, 0, ()), G1) (s.read a i (p + j)) (by omega) (G := G1 ++ [.cells (cellsOf (s.read a i (p + j))) .loose]) app_last
      have o2 := e2.none (Keep.push (fun _ => False) G1 (.cells (cellsOf (s.read a i (p + j))) .loose))
      have kk : Keep (fun x => ¬ N x) H (G1 ++ [.cells (cellsOf (s.read a i (p + j))) .loose]) := (kq.trans e4).trans (Keep.push _ _ _)
      have hstep : ∀ X, host_Host_clean.s2 (some (h, 0)) (i : Int) (((p + j : Nat) : Int), ()) G = X ↔ (some (Sum.elim (fun (_ : Unit) => (Sum.inl ((((p + j + 1 : Nat) : Int), ()) : Int × Unit) : (Int × Unit) ⊕ (Unit ⊕ (Bool × Unit)))) (fun (z : Bool × Unit) => Sum.inr (Sum.inr (z.1, ()))) (if allFF (s.read a i (p + j)) = true then (.inl () : Unit ⊕ (Bool × Unit)) else .inr (false, ())), G1 ++ [.cells (cellsOf (s.read a i (p + j))) .loose])) = X := by
        intro X
        unfold host_Host_clean.s2
        simp only [bind_some, Nat.zero_add, o'.rP, decide_eq_true (show ((p + j : Nat) : Int) < (a.P : Int) by omega), cond_t, e1, decide_true, Bool.not_true, cond_f, hcat, hcl, wrap_succ (show p + j < 9223372036854775807 by omega)]
        cases allFF (s.read a i (p + j)) <;> exact Iff.rfl
      by_cases hff : allFF (s.read a i (p + j)) = true
      · refine .inl ⟨(((p + (j + 1) : Nat) : Int), ()), _, (hstep _).2 (by rw [if_pos hff]; rfl), rfl, k1, n1, ?_, e3, kk, fun q h1 h2 => ?_⟩
        · exact o2.le (by omega) (by omega)
        · by_cases hqe : q = p + j
          · rw [hqe]; exact (allFF_full hfine i (p + j)).1 hff
          · exact hq q h1 (by omega)
      · have hne : s.pages i (p + j) ≠ [] := fun hh => hff ((allFF_full hfine i (p + j)).2 hh)
        have hu : s.used a i p = true := by
          unfold Nd.used
          refine List.any_eq_true.2 ⟨p + j, List.mem_range.2 (by omega), ?_⟩
          rw [decide_eq_true (show p ≤ p + j by omega), decide_eq_true hne]; rfl
        exact .inr ⟨.inr (false, ()), _, (hstep _).2 (by rw [if_neg hff]; rfl), k1, n1, by rw [if_pos hu], o2.le (by omega) (by omega), e3, kk⟩)
    (by
      rintro _ G ⟨rfl, k', n', o', hr', kq, hq⟩
      have hm1 := hmul (a.P - p) (by omega)
      have hu : s.used a i p = false := by
        unfold Nd.used
        refine List.any_eq_false.2 fun q hq' => ?_
        have hqP := List.mem_range.1 hq'
        by_cases hpq : p ≤ q
        · rw [hq q hpq (by omega)]; simp
        · rw [decide_eq_false hpq]; simp
      refine ⟨.inl (), G, ?_, k', n', ?_, o'.le (by omega) (by omega), hr', kq⟩
      · unfold host_Host_clean.s2
        simp only [bind_some, Nat.zero_add, o'.rP, decide_eq_false (show ¬ ((p + (a.P - p) : Nat) : Int) < (a.P : Int) by omega), cond_f]
      · rw [hu]; rfl)
    (y := (((p + 0 : Nat) : Int), ())) ⟨rfl, k, n, by simpa using o, hr, Keep.refl _ _, fun q h1 h2 => absurd h2 (by omega)⟩
  refine ⟨G, k', n', ?_, l2, l3, l4⟩
  have l1' : loopW (host_Host_clean.s2 (some (h, 0)) (i : Int)) ((p : Int), ()) H = some (y, G) := l1
  unfold host_Host_clean
  simp only [l1', bind_some, hy]
  cases s.used a i p <;> rfl
/-- Bytes of a page, one behind the other. -/
theorem Ho.pour {addr : Bytes} {f : Bool} {w : Int} (o : Ho H N h b a s ⟨2, 128, 5, addr, [], [], 0, 0, f, false, w⟩ T n) (t : Bytes) (ht : t.length ≤ a.S + 32) (hT : T + 2000 < 999999) (r9 : (Unit × Unit) × Heap) (h9 : r9.2 = H) :
    ∃ G, loopW (host_Host_Program.s1 (some (h, 0)) ((), H) t) (0, ()) (H ++ [.cells (cellsOf t) .loose]) = some ((), G) ∧ Ho G N h b a s ⟨2, 128, 5, addr, t, [], 0, 0, f, false, w⟩ (T + (t.length : Int)) n ∧ Keep (fun x => ¬ N x) H G := by
  have hsz := o.wf.sz
  obtain ⟨y, G, l1, l2, l3⟩ := loop_rise (step := host_Host_Program.s1 (some (h, 0)) ((), H) t) t.length
    (fun i z G => z = ((i : Int), ()) ∧ Ho G (fun y => N y ∨ y = H.length) h b a s ⟨2, 128, 5, addr, t.take i, [], 0, 0, f, false, w⟩ (T + i) n ∧ G[H.length]? = some (.cells (cellsOf t) .loose) ∧ Keep (fun x => ¬ N x) H G)
    (fun _ G => Ho G N h b a s ⟨2, 128, 5, addr, t, [], 0, 0, f, false, w⟩ (T + (t.length : Int)) n ∧ Keep (fun x => ¬ N x) H G)
    (by
      rintro i _ G hi ⟨rfl, q, hc, kq⟩
      have hat : Sl.at 1 ⟨some (H.length, 0), t.length, t.length⟩ (i : Int) = some (H.length, i) := by rw [at_of (by omega) (by show (i : Int) < (t.length : Int); omega), Int.toNat_natCast, Nat.mul_one, Nat.zero_add]
      have hb := byte_cell hc hi
      obtain ⟨G1, e1, e2, e3⟩ := q.inn (by omega) t[i]
      have hlt : (t.take i).length = i := by rw [List.length_take]; omega
      have hin : Bs.inF a (⟨2, 128, 5, addr, t.take i, [], 0, 0, f, false, w⟩ : Bs) t[i] = ⟨2, 128, 5, addr, t.take (i + 1), [], 0, 0, f, false, w⟩ := by
        unfold Bs.inF
        have hd : decide (((a.S + 32 : Nat) : Int) ≤ ((t.take i).length : Int)) = false := decide_eq_false (by rw [hlt]; omega)
        simp only [hd, Bool.or_false, decide_true, Bool.not_true]
        rw [show decide (((2 : Nat) : Int) = 2) = true from rfl, Bool.not_true, show (false || false) = false from rfl, cond_f, List.take_add_one, List.getElem?_eq_getElem hi]
        rfl
      rw [hin] at e2
      refine .inl ⟨(((i + 1 : Nat) : Int), ()), G1, ?_, rfl, by rw [show T + ((i + 1 : Nat) : Int) = T + (i : Int) + 1 by omega]; exact e2, e3.get hc (fun hh => hh (.inr rfl)), kq.trans (e3.mono fun x hx hn => hx (.inl hn))⟩
      unfold host_Host_Program.s1
      simp only [decide_eq_true (show (i : Int) < (t.length : Int) by omega), cond_t, hat, bind_some, hb, q.rb, e1, wrap_succ (show i < 9223372036854775807 by omega)])
    (by
      rintro _ G ⟨rfl, q, hc, kq⟩
      refine ⟨(), G, ?_, ?_, kq⟩
      · unfold host_Host_Program.s1
        simp only [decide_eq_false (show ¬ (t.length : Int) < (t.length : Int) by omega), cond_f]
      · rw [List.take_length] at q
        exact q.less fun x hx => .inl hx)
    (y := (((0 : Nat) : Int), ())) ⟨rfl, by
      rw [List.take_zero, show T + ((0 : Nat) : Int) = T by omega]
      exact o.add _, app_last, Keep.push _ _ _⟩
  exact ⟨G, l1, l2, l3⟩
theorem Ho.program (o : Ho H N h b a s k T n) (hr : Rest k) (hT : T + (a.P : Int) * ((a.S : Int) + 60) + 4000 < 999999) (x p : Int) (d sp : Bytes) (hdl : d.length < 100000) (hsl : sp.length < 100000) :
    ∃ H' k' n', host_Host_Program (some (h, 0)) x p d sp H = some (((s.progT a x p d sp).1, ()), H') ∧ Ho H' N h b a (s.progT a x p d sp).2 k' (T + (a.P : Int) * ((a.S : Int) + 60) + (a.S : Int) + 50) n' ∧ Rest k' ∧ Keep (fun x => ¬ N x) H H' := by
  have hsz := o.wf.sz
  have hsm := o.wf.small
  have hm0 : (0 : Int) ≤ (a.P : Int) * ((a.S : Int) + 60) := Int.mul_nonneg (by omega) (by omega)
  obtain ⟨r, b1, b2⟩ := o.begin x p
  unfold host_Host_Program Nd.progT
  by_cases he : s.inE a x p = 0
  · rw [if_neg (by simpa using he)]
    obtain ⟨hoff, i, q, rfl, rfl, hi, hq⟩ := in_zero he
    have hr0 := b2 he
    rw [row_wrap (by omega) (by omega) (by omega)] at hr0
    subst hr0
    have hrow : i * a.P ≤ 1000000 := Nat.mul_le_mul (show i ≤ 1000 by omega) (show a.P ≤ 1000 by omega)
    by_cases hl : d.length ≠ a.S ∨ sp.length ≠ 32
    · rw [if_pos hl]
      refine ⟨H, k, n, ?_, o.le (by omega) (by omega), hr, Keep.refl _ _⟩
      by_cases h1 : d.length = a.S
      · have h2 : sp.length ≠ 32 := by omega
        simp only [b1, bind_some, he, decide_true, Bool.not_true, cond_f, o.rS, decide_eq_true (show (d.length : Int) = (a.S : Int) by omega), decide_eq_false (show ¬ (sp.length : Int) = 32 by omega), Bool.not_false, cond_t]
      · simp only [b1, bind_some, he, decide_true, Bool.not_true, cond_f, o.rS, decide_eq_false (show ¬ (d.length : Int) = (a.S : Int) by omega), Bool.not_false, cond_t]
    · rw [if_neg hl]
      have hd1 : d.length = a.S := by omega
      have hd2 : sp.length = 32 := by omega
      have z1 : decide ((d.length : Int) = (a.S : Int)) = true := decide_eq_true (by omega)
      have z2 : decide ((sp.length : Int) = 32) = true := decide_eq_true (by omega)
      obtain ⟨H0, k0, n0, a1, a2, a3, a4⟩ := o.clean hr hi hq hoff (by omega)
      rw [Int.toNat_natCast, Int.toNat_natCast]
      cases hu : s.used a i q with
      | true =>
        rw [hu] at a1
        refine ⟨H0, k0, n0, ?_, a2.le (by omega) (by omega), a3, a4⟩
        simp only [b1, bind_some, he, decide_true, Bool.not_true, cond_f, o.rS, z1, z2, a1, Bool.not_false, cond_t, if_true]
      | false =>
        rw [hu] at a1
        simp only [Bool.false_eq_true, if_false]
        obtain ⟨st, cmd, want, addr, inn, out, at', busy, f, asked, w⟩ := k0
        obtain ⟨hbz, hask⟩ := a3
        simp only at hbz hask
        subst hbz; subst hask
        obtain ⟨H1, c1, c2, c3⟩ := a2.command (by omega) 128
        have e1 : Bs.command a s ⟨st, cmd, want, addr, inn, out, at', 0, f, false, w⟩ 128 = (s, ⟨1, 128, 5, [], [], [], 0, 0, f, false, w⟩) := rfl
        rw [e1] at c2
        obtain ⟨H2, d1, d2, d3⟩ := c2.send 0 2 (by omega) (by omega) (by decide)
        have e2 : Bs.addrs a (leB 2 0) s ⟨1, 128, 5, [], [], [], 0, 0, f, false, w⟩ = (s, ⟨1, 128, 5, [0, 0], [], [], 0, 0, f, false, w⟩) := rfl
        rw [e2] at d2
        obtain ⟨H3, f1, f2, f3⟩ := d2.send (i * a.P + q) 3 (by omega) (by omega) (by decide)
        have e3 : Bs.addrs a (leB 3 (i * a.P + q)) s ⟨1, 128, 5, [0, 0], [], [], 0, 0, f, false, w⟩ = (s, ⟨2, 128, 5, [0, 0] ++ leB 3 (i * a.P + q), [], [], 0, 0, f, false, w⟩) := rfl
        rw [e3] at f2
        have hlen : (d ++ sp).length = a.S + 32 := by rw [List.length_append]; omega
        obtain ⟨G, u1, u2, u3⟩ := Ho.pour f2 (d ++ sp) (by omega) (by omega) (((), ()), H3) rfl
        obtain ⟨H4, g1, g2, g3⟩ := u2.command (by omega) 16
        have hrw : (⟨2, 128, 5, [0, 0] ++ leB 3 (i * a.P + q), d ++ sp, [], 0, 0, f, false, w⟩ : Bs).row = i * a.P + q := row_is [0, 0] (by omega)
        obtain ⟨dm1, dm2⟩ := dm_is i q a.P hq
        have hblk : (⟨2, 128, 5, [0, 0] ++ leB 3 (i * a.P + q), d ++ sp, [], 0, 0, f, false, w⟩ : Bs).blk a = (i : Int) := by
          unfold Bs.blk
          rw [hrw, dm1]
        have hpg : (⟨2, 128, 5, [0, 0] ++ leB 3 (i * a.P + q), d ++ sp, [], 0, 0, f, false, w⟩ : Bs).pg a = (q : Int) := by
          unfold Bs.pg
          rw [hrw, dm2]
        have hov : (⟨2, 128, 5, [0, 0] ++ leB 3 (i * a.P + q), d ++ sp, [], 0, 0, f, false, w⟩ : Bs).over a = d ++ sp := by
          unfold Bs.over
          have hc : (⟨2, 128, 5, [0, 0] ++ leB 3 (i * a.P + q), d ++ sp, [], 0, 0, f, false, w⟩ : Bs).col = 0 := rfl
          rw [hc]
          show List.replicate (min (a.S + 32) 0) 255 ++ (d ++ sp).take (min (d ++ sp).length (a.S + 32 - min (a.S + 32) 0)) ++ List.replicate (a.S + 32 - min (a.S + 32) 0 - min (d ++ sp).length (a.S + 32 - min (a.S + 32) 0)) 255 = d ++ sp
          rw [Nat.min_zero, Nat.sub_zero, hlen, Nat.min_self, Nat.sub_self, List.take_of_length_le (by omega)]
          simp
        have e4 : Bs.command a s ⟨2, 128, 5, [0, 0] ++ leB 3 (i * a.P + q), d ++ sp, [], 0, 0, f, false, w⟩ 16 = ((s.progT a ((⟨2, 128, 5, [0, 0] ++ leB 3 (i * a.P + q), d ++ sp, [], 0, 0, f, false, w⟩ : Bs).blk a) ((⟨2, 128, 5, [0, 0] ++ leB 3 (i * a.P + q), d ++ sp, [], 0, 0, f, false, w⟩ : Bs).pg a) (((⟨2, 128, 5, [0, 0] ++ leB 3 (i * a.P + q), d ++ sp, [], 0, 0, f, false, w⟩ : Bs).over a).take a.S) (((⟨2, 128, 5, [0, 0] ++ leB 3 (i * a.P + q), d ++ sp, [], 0, 0, f, false, w⟩ : Bs).over a).drop a.S)).2, ⟨0, 128, 5, [0, 0] ++ leB 3 (i * a.P + q), d ++ sp, [], 0, 7, !decide ((s.progT a ((⟨2, 128, 5, [0, 0] ++ leB 3 (i * a.P + q), d ++ sp, [], 0, 0, f, false, w⟩ : Bs).blk a) ((⟨2, 128, 5, [0, 0] ++ leB 3 (i * a.P + q), d ++ sp, [], 0, 0, f, false, w⟩ : Bs).pg a) (((⟨2, 128, 5, [0, 0] ++ leB 3 (i * a.P + q), d ++ sp, [], 0, 0, f, false, w⟩ : Bs).over a).take a.S) (((⟨2, 128, 5, [0, 0] ++ leB 3 (i * a.P + q), d ++ sp, [], 0, 0, f, false, w⟩ : Bs).over a).drop a.S)).1 = 0), false, w⟩) := rfl
        have het : s.progT a (i : Int) (q : Int) d sp = s.program a i q (d ++ sp) := by
          unfold Nd.progT
          rw [if_neg (by simpa using he), if_neg hl, Int.toNat_natCast, Int.toNat_natCast, hu]
          rfl
        rw [hov, hblk, hpg, List.take_left' hd1, List.drop_left' hd1, het] at e4
        rw [e4] at g2
        obtain ⟨H5, n', j1, j2, j3, j4⟩ := g2.wait (by omega)
        obtain ⟨H6, l1, l2, l3⟩ := j2.failed (by omega) rfl
        have hK : Keep (fun x => ¬ N x) H H6 := (((((((a4.trans c3).trans d3).trans f3).trans u3).trans g3).trans j4).trans l3)
        refine ⟨H6, _, n', ?_, l2.le (by rw [hlen]; omega) (by omega), ⟨rfl, rfl⟩, hK⟩
        have hd1' : host_Host_send (some (h, 0)) 0 2 H1 = some ((), H2) := d1
        have hf1 : host_Host_send (some (h, 0)) ((i * a.P + q : Nat) : Int) 3 H2 = some ((), H3) := f1
        have hcat := cat_of (a := d) (b := sp) (by omega)
        have hwhy := l2.why 53
        simp only [b1, bind_some, he, decide_true, Bool.not_true, cond_f, o.rS, z1, z2, a1, Bool.not_false, a2.rb, c1, hd1', hf1, hcat, u1, u2.rb, g1, j1, l1]
        rcases prog_res (a := a) (i := i) (q := q) (t := d ++ sp) hoff with h0 | ⟨h1, h2⟩ | ⟨h1, h2⟩
        · simp only [h0, decide_true, Bool.not_true, cond_f]
        · simp only [h1, show decide ((51 : Int) = 0) = false from rfl, Bool.not_false, cond_t, hwhy, h2, if_true, bind_some]
        · simp only [h1, show decide ((53 : Int) = 0) = false from rfl, Bool.not_false, cond_t, hwhy, h2, Bool.false_eq_true, if_false, bind_some]
  · rw [if_pos he]
    refine ⟨H, k, n, ?_, o.le (by omega) (by omega), hr, Keep.refl _ _⟩
    simp only [b1, bind_some, decide_eq_false he, Bool.not_false, cond_t]
end
end Ev
