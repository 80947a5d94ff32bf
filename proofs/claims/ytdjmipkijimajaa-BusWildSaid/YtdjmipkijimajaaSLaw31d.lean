/- BusWild in plain Lean. -/
import Derived.Test.YtdjmipkijimajaaSLaw31c
namespace Ev
open Go (IntKind)

theorem came_keep {cts : List CT} {B H : Heap} {s : Sl} (h : Came cts B s H) : Keep (fun _ => False) B H := by
  rcases h with ⟨_, rfl⟩ | ⟨_, rows, _, _, _, rfl, _⟩
  · exact Keep.refl _ _
  · exact Keep.push _ _ _
theorem came_cap {cts : List CT} {B H : Heap} {s : Sl} (h : Came cts B s H) : s.len ≤ s.cap := by
  rcases h with ⟨rfl, rfl⟩ | ⟨len, rows, rfl, h1, _⟩
  · exact Nat.le_refl _
  · exact h1
/-- The first four of what came. -/
theorem came_four {cts : List CT} {B H : Heap} {s : Sl} (h : Came cts B s H) : ∃ (t : Sl) (rows : List (Tup cts)), Sl.sub cts.length s 0 (if 4 < (s.len : Int) then 4 else (s.len : Int)) (s.cap : Int) = some t ∧ Row H cts.length t (rowsOf cts rows) ∧ rows.length ≤ 4 ∧ ∀ x ∈ rows, ∀ c ∈ Tup.mk cts x, wfC c := by
  obtain ⟨rows, lr, ll, lw, _⟩ := came_rows h
  have hcap := came_cap h
  have hr : Sl.sub cts.length s 0 ((min 4 s.len : Nat) : Int) (s.cap : Int) = some ⟨s.p, min 4 s.len, s.cap⟩ ∧ Row H cts.length ⟨s.p, min 4 s.len, s.cap⟩ (rowsOf cts (rows.take (min 4 s.len))) := by
    have hn : min 4 s.len ≤ s.len := by omega
    constructor
    · unfold Sl.sub
      have : decide (0 ≤ (0 : Int) ∧ (0 : Int) ≤ ((min 4 s.len : Nat) : Int) ∧ ((min 4 s.len : Nat) : Int) ≤ (s.cap : Int) ∧ (s.cap : Int) ≤ (s.cap : Int)) = true := decide_eq_true (by omega)
      rw [this, cond_t]
      cases hp : s.p with
      | none => simp
      | some a => simp
    · refine ⟨?_, fun hp => by have := lr.nil hp; show min 4 s.len = 0; omega⟩
      cases hp : s.p with
      | none =>
        have h0 := lr.nil hp
        have : min 4 s.len = 0 := by omega
        rw [this]
        simp [slRow, rowsOf]
      | some x =>
        obtain ⟨cs, bk, h1, h2, h3⟩ := slRow_some (b := x.1) (o := x.2) hp lr.row
        have hle : min 4 s.len * cts.length ≤ s.len * cts.length := Nat.mul_le_mul_right _ hn
        unfold slRow
        simp only [Heap.row, h1]
        rw [cut_of (by omega), ← rows_take, ← h3, List.take_take, Nat.min_eq_left hle]
  refine ⟨_, _, ?_, hr.2, by rw [List.length_take]; omega, fun x hx => lw x (List.mem_of_mem_take hx)⟩
  rw [← hr.1]
  congr 1
  split <;> omega

/-- A pin: a kind and a byte. -/
theorem pin_cell {H : Heap} {s : Sl} {rows : List (Tup [.int .i64, .int .u8])} (h : Row H 2 s (rowsOf [.int .i64, .int .u8] rows)) (lw : ∀ x ∈ rows, ∀ c ∈ Tup.mk [.int .i64, .int .u8] x, wfC c) {i : Nat} (hi : i < rows.length) :
    ∃ (b o : Nat) (k : Int) (u : UInt8), Sl.at 2 s (i : Int) = some (b, o) ∧ rdI .i64 H b o = some k ∧ rdI .u8 H b (o + 1) = some ((u.toNat : Nat) : Int) := by
  obtain ⟨b, o, _, h1, _, cs, bk, h2, h3, h4⟩ := h.at (cts := [.int .i64, .int .u8]) hi (by decide)
  have hg : ∀ j, j < 2 → cs[o + j]? = (Tup.mk [.int .i64, .int .u8] rows[i])[j]? := by
    intro j hj
    rw [← h4, List.getElem?_take, List.getElem?_drop]
    exact (if_pos hj).symm
  have hwf := lw rows[i] (List.getElem_mem hi) (.int .u8 rows[i].2.1) (by simp [Tup.mk, CT.mk])
  obtain ⟨u, hu⟩ := byte_of hwf
  exact ⟨b, o, rows[i].1, u, h1, rdI_of h2 (by have := hg 0 (by decide); rw [Nat.add_zero] at this; rw [this]; rfl), rdI_of h2 (by rw [hg 1 (by decide), ← hu]; rfl)⟩

theorem BusWild_true (x0 : Sl × Sl × Sl × Unit) (x1 : Sl) {A B C' H : Heap} (h0 : Came [.int .i64, .int .i64, .int .u8] [] x0.1 A) (h1 : Came [.int .i64] A x0.2.1 B) (h2 : Came [.int .i64] B x0.2.2.1 C') (h3 : Came [.int .i64, .int .u8] C' x1 H) : ∃ H', law31_BusWild x0 x1 H = some ((true, ()), H') := by
  unfold law31_BusWild
  obtain ⟨t1, cuts, s1, w1, l1, v1⟩ := came_four h0
  obtain ⟨t2, fails, s2, w2, l2, _⟩ := came_four h1
  obtain ⟨t3, bad, s3, w3, l3, _⟩ := came_four h2
  obtain ⟨rows, lr, ll, lw, lb⟩ := came_rows h3
  have lr : Row H 2 x1 (rowsOf [.int .i64, .int .u8] rows) := lr
  let fB : Blk := .cells [.sl 3 x0.1, .sl 1 x0.2.1, .sl 1 x0.2.2.1] .exact
  have q1 : H ++ [Blk.cells [.sl 3 x0.1, .sl 1 x0.2.1, .sl 1 x0.2.2.1] .exact] = H ++ [fB] := rfl
  have r1 : @Eq (Option (Sl × Sl × Sl × Unit)) (rd (H ++ [fB]) (.agg [.sl 3, .sl 1, .sl 1]) H.length 0) (some x0) := by
    refine rd_agg_of app_last (by simp) ?_
    simp [Tup.un, CT.un]
    rfl
  have kc := came_keep h1
  have kd := came_keep h2
  have ke := came_keep h3
  have kp : Keep (fun _ => False) H (H ++ [fB]) := Keep.push _ _ _
  have no : ∀ {s : Sl} (b o : Nat), s.p = some (b, o) → ¬ False := fun _ _ _ => id
  have w1' : Row (H ++ [fB]) 3 t1 (cutC cuts) := w1.keep (((kc.trans kd).trans ke).trans kp) no
  have w2' : Row (H ++ [fB]) 1 t2 (intC (fails.map fun x => x.1)) := by rw [← rows_int]; exact w2.keep ((kd.trans ke).trans kp) no
  have w3' : Row (H ++ [fB]) 1 t3 (intC (bad.map fun x => x.1)) := by rw [← rows_int]; exact w3.keep (ke.trans kp) no
  obtain ⟨R, a, b, b1, b2, b3, b4⟩ := begun31 (H := H ++ [fB]) (0, 0, 0, ()) s1 s2 s3 w1' w2' w3' (Nat.le_trans l1 (by decide)) (Nat.le_trans (Nat.le_of_eq (List.length_map _)) (by omega)) (Nat.le_trans (Nat.le_of_eq (List.length_map _)) (by omega)) (fun x hx => by
    have := v1 x hx (.int .u8 x.2.2.1) (by simp [Tup.mk, CT.mk])
    have h' : 0 ≤ x.2.2.1 ∧ x.2.2.1 ≤ 255 := this
    omega)
  have eg : (x0.1, x0.2.1, x0.2.2.1, ()) = x0 := rfl
  have lr1 : Row R 2 x1 (rowsOf [.int .i64, .int .u8] rows) := lr.keep (kp.trans b3) no
  have hlo : ∀ {G : Heap}, Keep (fun x => (H ++ [fB]).length ≤ x) R G → Row G 2 x1 (rowsOf [.int .i64, .int .u8] rows) := fun kg => lr1.keep kg fun b' o' hp => by
    have := lr.lt hp
    rw [List.length_append]; simp; omega
  have c7 : ∀ G : Heap, loopW (law31_BusWild.s1 x1 ((some (a.c, 0), some (b, 0), true, ()), R)) (0, 0, ()) R = loopW (law31_BusWild.s1 x1 ((some (a.c, 0), some (b, 0), true, ()), R)) (0, 0, ()) R := fun _ => rfl
  obtain ⟨y, G, g1, s, k, g2, g3⟩ := loopW_run (step := law31_BusWild.s1 x1 ((some (a.c, 0), some (b, 0), true, ()), R)) (fun t G => ∃ (i : Nat) (s : Nd) (k : Bs), i ≤ 150 ∧ t.2.1 = (i : Int) ∧ 0 ≤ t.1 ∧ t.1 ≤ i ∧ s.did ≤ t.1 ∧ Bg G (H ++ [fB]).length b a s k i ∧ Keep (fun x => (H ++ [fB]).length ≤ x) R G)
    (fun y G => ∃ (s : Nd) (k : Bs), Bg G (H ++ [fB]).length b a s k 150 ∧ s.did ≤ y.1) (fun t _ => (150 - t.2.1).toNat)
    (by
      rintro ⟨e, j, u0⟩ G ⟨i, s, k, hi, rfl, he0, he, hd, hg, hK⟩
      simp only at he0 he hd
      have hgf : ∃ (s : Nd) (k : Bs), Bg G (H ++ [fB]).length b a s k 150 ∧ s.did ≤ e := ⟨s, k, hg.le (by omega) (by decide), hd⟩
      unfold law31_BusWild.s1
      by_cases hlen : i < x1.len
      · have hlenI : decide ((i : Int) < (x1.len : Int)) = true := decide_eq_true (by omega)
        by_cases h150 : i < 150
        · have h150I : decide ((i : Int) < 150) = true := decide_eq_true (by omega)
          obtain ⟨pb, po, pk, pu, p1, p2, p3⟩ := pin_cell (hlo hK) lw (i := i) (by omega)
          have ei : IntKind.wrap .i64 ((i : Int) + 1) = ((i + 1 : Nat) : Int) := wrap_succ (by omega)
          have ee : IntKind.wrap .i64 (e + 1) = e + 1 := wrap_i64 (by omega) (by omega)
          have mu : (150 - ((i + 1 : Nat) : Int)).toNat < (150 - (i : Int)).toNat := by omega
          have ecast : ((i + 1 : Nat) : Int) = (i : Int) + 1 := by omega
          simp only [hlenI, h150I, cond_t, p1, p2, p3, bind_some, ei, ee]
          by_cases k0 : pk = 0
          · obtain ⟨G1, o1, o2, o3⟩ := hg.command (by omega) ((pu.toNat : Nat) : Int)
            have hgd := (command_good hg.2.1 hg.2.2 (by omega) ((pu.toNat : Nat) : Int)).2.2.1
            simp only [decide_eq_true k0, cond_t, o1, bind_some]
            by_cases c16 : ((pu.toNat : Nat) : Int) = 16
            · simp only [decide_eq_true c16, cond_t, Round]
              have : isEnd ((pu.toNat : Nat) : Int) = 1 := by rw [c16]; rfl
              rw [this] at hgd
              exact ⟨⟨i + 1, (k.command a s ((pu.toNat : Nat) : Int)).1, (k.command a s ((pu.toNat : Nat) : Int)).2, by omega, rfl, by omega, by omega, by omega, by rw [ecast]; exact o2, hK.trans o3⟩, mu⟩
            · by_cases c208 : ((pu.toNat : Nat) : Int) = 208
              · simp only [decide_eq_false c16, decide_eq_true c208, cond_f, cond_t, Round]
                have : isEnd ((pu.toNat : Nat) : Int) = 1 := by rw [c208]; rfl
                rw [this] at hgd
                exact ⟨⟨i + 1, (k.command a s ((pu.toNat : Nat) : Int)).1, (k.command a s ((pu.toNat : Nat) : Int)).2, by omega, rfl, by omega, by omega, by omega, by rw [ecast]; exact o2, hK.trans o3⟩, mu⟩
              · simp only [decide_eq_false c16, decide_eq_false c208, cond_f, Round]
                have : isEnd ((pu.toNat : Nat) : Int) = 0 := if_neg (by omega)
                rw [this] at hgd
                exact ⟨⟨i + 1, (k.command a s ((pu.toNat : Nat) : Int)).1, (k.command a s ((pu.toNat : Nat) : Int)).2, by omega, rfl, by omega, by omega, by omega, by rw [ecast]; exact o2, hK.trans o3⟩, mu⟩
          · by_cases k1 : pk = 1
            · obtain ⟨G1, o1, o2, o3⟩ := hg.address (by omega) pu
              have hgd := (address_good hg.2.1 hg.2.2 (by omega) pu).2.2.1
              simp only [decide_eq_false k0, decide_eq_true k1, cond_f, cond_t, o1, bind_some, Round]
              exact ⟨⟨i + 1, (k.address a s pu).1, (k.address a s pu).2, by omega, rfl, by omega, by omega, by omega, by rw [ecast]; exact o2, hK.trans o3⟩, mu⟩
            · by_cases k2 : pk = 2
              · obtain ⟨G1, o1, o2, o3⟩ := hg.inn (by omega) pu
                simp only [decide_eq_false k0, decide_eq_false k1, decide_eq_true k2, cond_f, cond_t, o1, bind_some, Round]
                exact ⟨⟨i + 1, _, _, by omega, rfl, by omega, by omega, hd, by rw [ecast]; exact o2, hK.trans o3⟩, mu⟩
              · by_cases k3 : pk = 3
                · obtain ⟨G1, o1, o2, o3⟩ := hg.out (by omega)
                  simp only [decide_eq_false k0, decide_eq_false k1, decide_eq_false k2, decide_eq_true k3, cond_f, cond_t, o1, bind_some, Round]
                  exact ⟨⟨i + 1, _, _, by omega, rfl, by omega, by omega, hd, by rw [ecast]; exact o2, hK.trans o3⟩, mu⟩
                · obtain ⟨G1, o1, o2, o3⟩ := hg.ready
                  simp only [decide_eq_false k0, decide_eq_false k1, decide_eq_false k2, decide_eq_false k3, cond_f, o1, bind_some, Round]
                  exact ⟨⟨i + 1, _, _, by omega, rfl, by omega, by omega, hd, o2.le (by omega) (by omega), hK.trans o3⟩, mu⟩
        · simp only [hlenI, decide_eq_false (show ¬ (i : Int) < 150 by omega), cond_t, cond_f, Round]
          exact hgf
      · simp only [decide_eq_false (show ¬ (i : Int) < (x1.len : Int) by omega), cond_f, Round]
        exact hgf) (0, 0, ()) R ⟨0, _, _, by decide, rfl, Int.le_refl _, Int.le_refl _, Int.le_refl 0, b2, Keep.refl _ _⟩
  clear c7
  obtain ⟨G1, c1, c2, _⟩ := g2.command (by decide) 255
  rw [show k.command a s 255 = (s, k.reset) from rfl] at c2
  simp only at c2
  obtain ⟨G2, d1, d2, _⟩ := c2.polls 3 (by decide) rfl
  have d1' : law31_polls (some (b, 0)) G1 = some ((3, ()), G2) := d1
  obtain ⟨G3, e1, e2, _⟩ := d2.command (by decide) 144
  rw [id1 _ _ _ rfl] at e2
  obtain ⟨G4, f1, f2, _⟩ := e2.address (by decide) 0
  rw [id2] at f2
  have f1' : bus_Bus_Address (some (b, 0)) 0 G3 = some ((), G4) := f1
  have hdid := f2.did
  obtain ⟨G5, t1', t2', _⟩ := f2.take 3 (by decide) (by decide)
  have hb : ∀ (f : Bool) (w : Int), Bs.bytes 3 (⟨4, 144, 1, [0], [], [84, 66, 1], 0, 0, f, false, w⟩ : Bs) = [84, 66, 1] := fun f w => rfl
  rw [hb] at t1'
  have t1'' : law31_take (some (b, 0)) 3 G4 = some (([84, 66, 1], ()), G5) := t1'
  have hw : bus_Bus_Wrong (some (b, 0)) G5 = some ((k.wrong, ()), G5) := t2'.wrong
  have hw0 := g2.wrong
  refine ⟨G5, ?_⟩
  have hdd : decide (s.did ≤ y.1) = true := decide_eq_true g3
  simp only [q1, r1, bind_some, eg, b1, awake31, Bool.not_true, cond_f, g1, hw0, c1, d1', e1, f1', hdid, hdd, cond_t, decide_true, t1'', hw]
end Ev
