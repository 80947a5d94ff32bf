/- CellPlays: the law. -/
import Derived.Test.YtpebaginkkbnpaaGreatSLaw30s
namespace Ev
open Go (IntKind)

/-- The first three of what came. -/
theorem came_three {B H : Heap} {s : Sl} (h : Came [.int .i64] B s H) : ∃ (t : Sl) (l : List Int), Sl.sub 1 s 0 (if 3 < (s.len : Int) then 3 else (s.len : Int)) (s.cap : Int) = some t ∧ Row H 1 t (intC l) ∧ l.length ≤ 3 := by
  obtain ⟨rows, lr, ll, _, _⟩ := came_rows h
  obtain ⟨h1, h2⟩ := row_front lr ll (came_fits h) (n := min 3 s.len) (by omega)
  refine ⟨_, (rows.take (min 3 s.len)).map fun x => x.1, ?_, by rw [← rows_int]; exact h2, Nat.le_trans (Nat.le_of_eq (List.length_map _)) (Nat.le_trans (List.length_take_le _ _) (Nat.min_le_left _ _))⟩
  rw [show (if 3 < (s.len : Int) then 3 else (s.len : Int)) = ((min 3 s.len : Nat) : Int) by split <;> omega]
  exact h1

set_option maxHeartbeats 4000000 in
theorem CellPlays_true (x0 : Sl × Sl × Sl × Unit) (x1 x2 : Sl) {A B C' D' H : Heap} (h0 : Came [.int .i64, .int .i64, .int .u8] [] x0.1 A) (h1 : Came [.int .i64] A x0.2.1 B) (h2 : Came [.int .i64] B x0.2.2.1 C')
    (h3 : Came [.int .i64, .int .i64, .int .i64, .int .i64, .int .u8] C' x1 D') (h4 : Came [.int .i64, .int .i64, .int .i64, .str] D' x2 H) : ∃ H', law30_CellPlays x0 x1 x2 H = some ((true, ()), H') := by
  obtain ⟨t4, fails, s4, w4, l4⟩ := came_three h1
  obtain ⟨t7, bad, s7, w7, l7⟩ := came_three h2
  obtain ⟨noi, wn, ln, vn, _⟩ := came_rows h3
  obtain ⟨acts, wa, la, _, pa⟩ := came_rows h4
  have no : ∀ {s : Sl} (b o : Nat), s.p = some (b, o) → ¬ False := fun _ _ _ => id
  have kc := came_stay h2
  have kd := came_stay h3
  have ke := came_stay h4
  obtain ⟨H1, hH1⟩ : ∃ x, x = H ++ [Blk.cells [.sl 3 x0.1, .sl 1 x0.2.1, .sl 1 x0.2.2.1] .exact] := ⟨_, rfl⟩
  have b1 : H1[H.length]? = some (.cells [.sl 3 x0.1, .sl 1 x0.2.1, .sl 1 x0.2.2.1] .exact) := by rw [hH1]; exact app_last
  have r1 : rdSl 1 H1 H.length 1 = some x0.2.1 := rdSl_of b1 rfl
  have r2 : rdSl 1 H1 H.length 2 = some x0.2.2.1 := rdSl_of b1 rfl
  have k1 : Keep (fun _ => False) H H1 := by rw [hH1]; exact Keep.push _ _ _
  have w8 : wr (H1 ++ [Blk.cells [.sl 3 Sl.nil, .sl 1 Sl.nil, .sl 1 Sl.nil] .exact]) H1.length 0 [.sl 3 (⟨none, 0, 0⟩), .sl 1 t4, .sl 1 t7] = some (H1 ++ [.cells [.sl 3 (⟨none, 0, 0⟩), .sl 1 t4, .sl 1 t7] .exact]) := wr_last (by decide) (by simp)
  obtain ⟨H9, hH9⟩ : ∃ x, x = H1 ++ [Blk.cells [.sl 3 (⟨none, 0, 0⟩), .sl 1 t4, .sl 1 t7] .exact] := ⟨_, rfl⟩
  rw [← hH9] at w8
  have b9 : H9[H1.length]? = some (.cells [.sl 3 (⟨none, 0, 0⟩), .sl 1 t4, .sl 1 t7] .exact) := by rw [hH9]; exact app_last
  have k9 : Keep (fun _ => False) H H9 := k1.trans (by rw [hH9]; exact Keep.push _ _ _)
  have rd9 : ∀ {K : Heap}, Keep (fun _ => False) H9 K → @Eq (Option (Sl × Sl × Sl × Unit)) (rd K (.agg [.sl 3, .sl 1, .sl 1]) H1.length 0) (some (⟨none, 0, 0⟩, t4, t7, ())) := fun k => by
    refine rd_agg_of (k.get b9 id) (by simp) ?_
    simp [Tup.un, CT.un]
    rfl
  obtain ⟨ns, G, N, n1, n2, n3, n4, n5, n6⟩ := noise_eq (l := noi) (wn.keep (ke.trans k9) no) (fun n hn => by
    have := vn n hn (.int .u8 n.2.2.2.2.1) (by simp [Tup.mk, CT.mk])
    have h' : 0 ≤ n.2.2.2.2.1 ∧ n.2.2.2.2.1 ≤ 255 := this
    omega)
  have w4' : Row G 1 t4 (intC fails) := w4.keep (((kc.trans kd).trans ke).trans (k9.trans n3)) no
  have w7' : Row G 1 t7 (intC bad) := w7.keep ((kd.trans ke).trans (k9.trans n3)) no
  obtain ⟨G1, q, e1, e2, e3, hq, w0, e4⟩ := cnew_std (f := (⟨none, 0, 0⟩, t4, t7, ())) (seed := 3) (fails := fails) (bad := bad) (N := N) G (Row.ni _ _ _) w4' w7' n2 (by omega) (by omega) (by omega) (by decide) (fun n hn => by
    obtain ⟨j, hj, hv⟩ := (n5 n hn).v
    rw [hv]
    have := (UInt8.ofNat (2 ^ j)).toNat_lt
    show 0 ≤ (((UInt8.ofNat (2 ^ j)).toNat : Nat) : Int) ∧ (((UInt8.ofNat (2 ^ j)).toNat : Nat) : Int) < 256
    omega)
  obtain ⟨G2, a, c1, c2, c3, ca1, ca2, ca3, c4⟩ := new_yes (B := 8) (P := 4) (S := 64) (f := (⟨none, 0, 0⟩, t4, t7, ())) (cuts := []) (fails := fails) (bad := bad) G1 (by decide) (Row.ni _ _ _) (w4'.keep e3 no) (w7'.keep e3 no) (by decide) (by omega) (by omega)
  have c1' : nand_New (8, 4, 64, ()) (⟨none, 0, 0⟩, t4, t7, ()) G1 = some ((some (a.c, 0), 0, ()), G2) := c1
  have kG : Keep (fun _ => False) H G2 := ((k9.trans n3).trans e3).trans c3
  have hHG : H.length ≤ G.length := (k9.trans n3).len
  have hGG : G.length ≤ G1.length := e3.len
  have hxp : ∀ k o, x2.p = some (k, o) → k < H.length := fun k o hp => wa.lt hp
  have hgeo : law30_geometry = some ((8, 4, 64, ()), ()) := rfl
  have init : Both G1.length q a x2 acts 0 G2 (Ce.new fails bad 3 N) (Nd.new [] fails bad) := by
    refine ⟨e2.keep c3 fun _ _ => id, c2, ⟨⟨rfl, rfl⟩, ⟨rfl, rfl⟩, rfl, rfl, fun _ => rfl, fun _ _ => Iff.rfl, fun b p _ hne => absurd rfl hne, fun pg => Fl.non _ _ _, rfl, n5, n6⟩, w0, Wf.newN _ _ ⟨by omega, by omega, by omega, by omega, by omega⟩, wa.keep kG no, ⟨Int.le_refl _, Int.le_refl _⟩, fun k hk => e2.own_lt hk, c4, fun k o hp => ⟨fun hk => ?_, fun hk => ?_⟩⟩
    · have := hxp k o hp; have := e4 k hk; omega
    · have := hxp k o hp; have := c4 k hk; omega
  obtain ⟨x, G3, l1, hx⟩ := loop_rise (step := law30_CellPlays.s1 x2 ((some (q.c, 0), 0, ()), G1) ((some (a.c, 0), 0, ()), G2)) (min acts.length 60)
    (fun i y G => ∃ t z, y = ((i : Int), ()) ∧ Both G1.length q a x2 acts i G t z)
    (fun x G => x = .inl () ∨ x = .inr (true, ()))
    (by
      rintro i _ K hi ⟨t, z, rfl, hb⟩
      have hi1 : i < acts.length := Nat.lt_of_lt_of_le hi (Nat.min_le_left _ _)
      have hi2 : i < 60 := Nat.lt_of_lt_of_le hi (Nat.min_le_right _ _)
      rcases hb.act hq ⟨ca1, ca2, ca3⟩ hi1 hi2 la (r14 := ((some (q.c, 0), 0, ()), G1)) (r17 := ((some (a.c, 0), 0, ()), G2)) rfl rfl with ⟨K', t', z', g1, g2⟩ | ⟨K', g1⟩
      · exact .inl ⟨_, K', g1, t', z', rfl, g2⟩
      · exact .inr ⟨_, K', g1, .inr rfl⟩)
    (by
      rintro _ K ⟨t, z, rfl, hb⟩
      refine ⟨.inl (), K, ?_, .inl rfl⟩
      unfold law30_CellPlays.s1
      by_cases c : acts.length ≤ 60
      · rw [Nat.min_eq_left c]
        simp only [decide_eq_false (show ¬ ((acts.length : Nat) : Int) < (x2.len : Int) by omega), cond_f]
      · rw [Nat.min_eq_right (by omega)]
        simp only [decide_eq_true (show ((60 : Nat) : Int) < (x2.len : Int) by omega), cond_t, decide_eq_false (show ¬ ((60 : Nat) : Int) < 60 by omega), cond_f])
    (y := (((0 : Nat) : Int), ())) (H := G2) ⟨_, _, rfl, init⟩
  have l1' : loopW (law30_CellPlays.s1 x2 ((some (q.c, 0), 0, ()), G1) ((some (a.c, 0), 0, ()), G2)) (0, ()) G2 = some (x, G3) := l1
  refine ⟨G3, ?_⟩
  unfold law30_CellPlays
  simp only [← hH1, r1, r2, bind_some, s4, s7, w8, hgeo, rd9 (Keep.refl _ _), n1, rd9 n3, if_pos, e1, rd9 (n3.trans e3), c1', awake30, Bool.not_true, cond_f, decide_true, l1']
  rcases hx with rfl | rfl <;> rfl
end Ev
