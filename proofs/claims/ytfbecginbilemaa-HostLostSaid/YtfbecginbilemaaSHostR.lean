/- The host: probing; chapter 32: a chip driven through its pins. -/
import Derived.Test.YtfbecginbilemaaSHostP
import Derived.Test.YtfbecginbilemaaSGeo
namespace Ev
open Go (IntKind)

def Bs.new : Bs := ⟨0, 0, 0, [], [], [], 0, 0, false, false, 0⟩
theorem new_wf {a : NdA} {cuts : List Cut} {fails bad : List Int} (hcu : ∀ x ∈ cuts, 0 ≤ x.2.2.1 ∧ x.2.2.1 < 256) (hsz : 1 ≤ a.B ∧ a.B ≤ 1000 ∧ 1 ≤ a.P ∧ a.P ≤ 1000 ∧ a.S ≤ 1000) : Wf a (Nd.new cuts fails bad) 0 :=
  ⟨⟨Int.le_refl _, Int.le_refl _⟩, fun _ => ⟨Int.le_refl _, Int.le_refl _⟩, hcu, fun _ _ => .inl rfl, by decide, hsz⟩
theorem new_good : Good Bs.new 0 := ⟨Int.le_refl _, fun h => (by cases h), fun h => (by cases h), fun h => (by cases h), Nat.zero_le _, Nat.zero_le _, ⟨Nat.zero_le _, Nat.le_refl _⟩, Nat.zero_le _⟩
theorem par_first (B P S : Nat) (hB : B ≤ 1000) (hP : P ≤ 1000) (hS : S ≤ 1000) : parOK (cpy (par3 B P S) 0) = true ∧ parG (cpy (par3 B P S) 0) = ((B : Int), (P : Int), (S : Int), ()) := by
  have hc : cpy (par3 B P S) 0 = par1 B P S := by
    unfold cpy par3
    rw [Nat.zero_mul, List.drop_zero, List.append_assoc, show (0 + 1) * 24 = 24 from rfl, List.take_left' (par1_length B P S)]
  have hlt := crcMore_lt (c := 0) (s := parC B P S) (by decide)
  have e20 : (par1 B P S).take 20 = parC B P S := by unfold par1; rw [List.take_left' (parC_length B P S)]
  have d20 : (par1 B P S).drop 20 = leB 4 (crcMore 0 (parC B P S)) := by unfold par1; rw [List.drop_left' (parC_length B P S)]
  have hp : par1 B P S = [84, 66, 1] ++ (leB 4 B ++ (leB 4 P ++ (leB 4 S ++ (leB 2 32 ++ ([0, 0, 0] ++ leB 4 (crcMore 0 (parC B P S))))))) := by
    unfold par1 parC parB
    simp only [List.append_assoc]
  have d3 : ∀ X : Bytes, ([84, 66, 1] ++ X).drop 3 = X := fun _ => rfl
  have g1 : (par1 B P S).drop 3 = leB 4 B ++ (leB 4 P ++ (leB 4 S ++ (leB 2 32 ++ ([0, 0, 0] ++ leB 4 (crcMore 0 (parC B P S)))))) := by rw [hp, d3]
  have g2 : (par1 B P S).drop 7 = leB 4 P ++ (leB 4 S ++ (leB 2 32 ++ ([0, 0, 0] ++ leB 4 (crcMore 0 (parC B P S))))) := by
    rw [show (7 : Nat) = 3 + 4 from rfl, ← List.drop_drop, g1, List.drop_left' (leB_length 4 B)]
  have g3 : (par1 B P S).drop 11 = leB 4 S ++ (leB 2 32 ++ ([0, 0, 0] ++ leB 4 (crcMore 0 (parC B P S)))) := by
    rw [show (11 : Nat) = 7 + 4 from rfl, ← List.drop_drop, g2, List.drop_left' (leB_length 4 P)]
  have g4 : (par1 B P S).drop 15 = leB 2 32 ++ ([0, 0, 0] ++ leB 4 (crcMore 0 (parC B P S))) := by
    rw [show (15 : Nat) = 11 + 4 from rfl, ← List.drop_drop, g3, List.drop_left' (leB_length 4 S)]
  rw [hc]
  constructor
  · unfold parOK
    rw [e20, d20, valB_leB 4 _ (by omega), g4, List.take_left' (leB_length 2 32), valB_leB 2 32 (by decide)]
    simp
  · unfold parG
    rw [g1, g2, g3, List.take_left' (leB_length 4 B), List.take_left' (leB_length 4 P), List.take_left' (leB_length 4 S), valB_leB 4 B (by omega), valB_leB 4 P (by omega), valB_leB 4 S (by omega)]

section
variable {H : Heap} {L : Nat → Prop} {b : Nat} {a : NdA} {s : Nd} {g : Geo} {N : Nat → Prop} {h : Nat} {k : Bs} {T : Int} {n : Nat}
/-- A heap that grew. -/
theorem Hg.grow (o : Hg g H N h b a s k T n) {H' : Heap} {N' : Nat → Prop} (kp : Keep (fun _ => False) H H') (hN : ∀ x, N' x → (N x ∨ H.length ≤ x) ∧ x < H'.length) : Hg g H' N' h b a s k T n := by
  obtain ⟨⟨⟨sa, si, hx⟩, w, gd⟩, hc, hn, nn⟩ := o
  have hp := hx.far kp fun _ hh => hh.elim
  have hb := get_lt hx.cell
  have hl := get_lt hc
  have imp : ∀ x, x < H.length → hoL N' h x → hoL N h x := fun x hxl hh => by
    rcases hh with hh | hh
    · rcases (hN x hh).1 with h1 | h1
      · exact .inl h1
      · omega
    · exact .inr hh
  refine ⟨⟨⟨sa, si, { hp with na := fun y hy => ⟨(hx.na y hy).1, (hx.na y hy).2.1, fun h2 => (hx.na y hy).2.2 (imp _ (hx.ga.lt hy) h2)⟩, ni := fun y hy => ⟨(hx.ni y hy).1, (hx.ni y hy).2.1, fun h2 => (hx.ni y hy).2.2 (imp _ (hx.gi.lt hy) h2)⟩, lo := fun y hy h2 => hx.lo y hy (imp _ (hx.nd.own_lt hy) h2), lb := fun h2 => hx.lb (imp _ hb h2), fl := fun y hy => ?_ }⟩, w, gd⟩, kp.get hc id, fun hh => hn (by
    rcases (hN h hh).1 with h1 | h1
    · exact h1
    · omega), nn⟩
  rcases hy with hy | rfl
  · exact (hN y hy).2
  · have := kp.len; omega
theorem probe_eq (o : Bg H L b a s Bs.new 0) : ∃ H' h k' n', host_Probe (some (b, 0)) H = some ((some (h, 0), 0, ()), H') ∧ Ho H' L h b a s k' 100 n' ∧ Rest k' ∧ 2 ≤ n' ∧ Keep (fun x => ¬ L x) H H' := by
  have hsz := o.2.1.sz
  let hB : Blk := .cells [.ptr (some (b, 0)), .int .i64 0, .int .i64 0, .int .i64 0, .int .i64 0] .exact
  have nl : ¬ L H.length := fun hh => by
    obtain ⟨⟨sa, si, hx⟩, _, _⟩ := o
    have := hx.fl _ hh
    omega
  have o1 : Hg (0, 0, 0, ()) (H ++ [hB]) L H.length b a s Bs.new 0 0 := ⟨o.add hB, app_last, nl, by decide⟩
  obtain ⟨H1, c1, c2, c3⟩ := o1.command (by decide) 255
  have e1 : Bs.new.command a s 255 = (s, ⟨0, 0, 0, [], [], [], 0, 3, false, false, 0⟩) := rfl
  rw [e1] at c2
  obtain ⟨H2, n1, d1, d2, d3, d4⟩ := c2.wait (by decide)
  obtain ⟨H3, f1, f2, f3⟩ := d2.command (by decide) 236
  have e2 : Bs.command a s { (⟨0, 0, 0, [], [], [], 0, 3, false, false, 0⟩ : Bs) with busy := 0 } 236 = (s, ⟨1, 236, 1, [], [], [], 0, 0, false, false, 0⟩) := rfl
  rw [e2] at f2
  obtain ⟨H4, g1, g2, g3⟩ := f2.address (by decide) 0
  have e3 : Bs.address a s ⟨1, 236, 1, [], [], [], 0, 0, false, false, 0⟩ 0 = (s, ⟨4, 236, 1, [0], [], par3 a.B a.P a.S, 0, 3, false, false, 0⟩) := rfl
  rw [e3] at g2
  obtain ⟨H5, n2, j1, j2, j3, j4⟩ := g2.wait (by decide)
  obtain ⟨H6, t1, t2, t3⟩ := j2.take 72 (by decide) rfl rfl rfl rfl (by show 72 ≤ (par3 a.B a.P a.S).length; rw [par3_length]; exact Nat.le_refl _)
  have t1' : host_take (some (b, 0)) 72 H5 = some ((par3 a.B a.P a.S, ()), H6) := by
    have ht : (par3 a.B a.P a.S).take 72 = par3 a.B a.P a.S := List.take_of_length_le (by rw [par3_length]; exact Nat.le_refl _)
    have := t1
    rw [show (({ (⟨4, 236, 1, [0], [], par3 a.B a.P a.S, 0, 3, false, false, 0⟩ : Bs) with busy := 0 } : Bs).out) = par3 a.B a.P a.S from rfl, ht] at this
    exact this
  obtain ⟨p1, p2⟩ := par_first a.B a.P a.S (by omega) (by omega) (by omega)
  obtain ⟨gg, q1, q2, _⟩ := host_Params_eq (par3 a.B a.P a.S) (par3_length _ _ _)
  rw [q2 p1, p2, p1, Bool.true_or] at q1
  have w9 : wr (H6 ++ [Blk.cells [.int .i64 0, .int .i64 0, .int .i64 0] .exact]) H6.length 0 [.int .i64 (a.B : Int), .int .i64 (a.P : Int), .int .i64 (a.S : Int)] = some (H6 ++ [geoB (geoA a)]) := by
    rw [wr_last (by decide) (by simp)]; rfl
  have t4 := t2.none (Keep.push (fun _ => False) H6 (geoB (geoA a)))
  have r9 : @Eq (Option Geo) (rd (H6 ++ [geoB (geoA a)]) (.agg [.int .i64, .int .i64, .int .i64]) H6.length 0) (some (geoA a)) := rd_geo app_last
  have w10 : wr (H6 ++ [geoB (geoA a)]) H.length 1 [.int .i64 (geoA a).1, .int .i64 (geoA a).2.1, .int .i64 (geoA a).2.2.1] = some ((H6 ++ [geoB (geoA a)]).set H.length (.cells (hoC (geoA a) b n2) .exact)) := by
    rw [wr_of t4.cell (by decide) (by simp [hoC])]; rfl
  have kp : Keep (fun x => x = H.length) (H6 ++ [geoB (geoA a)]) ((H6 ++ [geoB (geoA a)]).set H.length (.cells (hoC (geoA a) b n2) .exact)) := Keep.set _ _ _ rfl
  have fin : Ho ((H6 ++ [geoB (geoA a)]).set H.length (.cells (hoC (geoA a) b n2) .exact)) L H.length b a s _ (0 + 1 + 1 + 1 + 1 + 1 + ((72 : Nat) : Int)) n2 := ⟨t4.bg.far kp fun x hx => .inr hx, set_get (get_lt t4.cell), nl, t4.nn⟩
  have hK : Keep (fun x => ¬ L x) H ((H6 ++ [geoB (geoA a)]).set H.length (.cells (hoC (geoA a) b n2) .exact)) := ((((((((Keep.push _ _ _).trans c3).trans d4).trans f3).trans g3).trans j4).trans t3).trans (Keep.push _ _ _)).trans (kp.mono fun x hx hn => nl (hx ▸ hn))
  refine ⟨_, H.length, _, n2, ?_, fin.le (by decide) (by decide), ⟨rfl, rfl⟩, by omega, hK⟩
  unfold host_Probe
  have qh : H ++ [Blk.cells [.ptr (some (b, 0)), .int .i64 0, .int .i64 0, .int .i64 0, .int .i64 0] .exact] = H ++ [hB] := rfl
  have g1' : bus_Bus_Address (some (b, 0)) 0 H3 = some ((), H4) := g1
  simp only [Option.isNone_some, cond_f, qh, c1, bind_some, d1, decide_true, Bool.not_true, f1, g1', j1, t1', q1, w9, r9, w10]
end
theorem begun32 {H : Heap} {t1 t2 t3 : Sl} {cuts : List Cut} {fails bad : List Int} (g : Geo)
    (hcu : Row H 3 t1 (cutC cuts)) (hfa : Row H 1 t2 (intC fails)) (hba : Row H 1 t3 (intC bad)) (hl1 : cuts.length ≤ 1099511627776) (hl2 : fails.length ≤ 1099511627776) (hl3 : bad.length ≤ 1099511627776) (hfi : ∀ x ∈ cuts, 0 ≤ x.2.2.1 ∧ x.2.2.1 < 256) :
    ∃ H' a h b k n, law32_begun g (t1, t2, t3, ()) H = some ((some (a.c, 0), some (h, 0), true, ()), H') ∧ Ho H' (fun x => x < H.length) h b a (Nd.new cuts fails bad) k 100 n ∧ Rest k ∧ 2 ≤ n ∧ Keep (fun x => ¬ x < H.length) H H' ∧ shape g = geoA a ∧ (8 ≤ a.B ∧ a.B ≤ 15 ∧ 4 ≤ a.P ∧ a.P ≤ 11 ∧ 64 ≤ a.S ∧ a.S ≤ 127) := by
  unfold law32_begun
  obtain ⟨B, P, S, hsh, hB0, hB1, hP0, hP1, hS0, hS1, hok⟩ := shape_nat g
  let gB : Blk := .cells [.int .i64 g.1, .int .i64 g.2.1, .int .i64 g.2.2.1] .exact
  let fB : Blk := .cells [.sl 3 t1, .sl 1 t2, .sl 1 t3] .exact
  let H1 : Heap := H ++ [gB]
  let H2 : Heap := H1 ++ [fB]
  have e1 : H1.length = H.length + 1 := by simp [H1]
  have q1 : H ++ [Blk.cells [.int .i64 g.1, .int .i64 g.2.1, .int .i64 g.2.2.1] .exact] = H1 := rfl
  have q2 : H1 ++ [Blk.cells [.sl 3 t1, .sl 1 t2, .sl 1 t3] .exact] = H2 := rfl
  have g2 : H2[H.length]? = some gB := by rw [app_lt (by omega)]; exact app_last
  have f2' : H2[H1.length]? = some fB := app_last
  have r1 := rd_geo (H := H2) (k := H.length) (g := g) (bk := .exact) g2
  obtain ⟨H3, k1, k2⟩ := geometry_eq g H2
  rw [hsh] at k1
  have f3' := k2.get f2' id
  have rf : ∀ {G : Heap}, G[H1.length]? = some fB → @Eq (Option (Sl × Sl × Sl × Unit)) (rd G (.agg [.sl 3, .sl 1, .sl 1]) H1.length 0) (some (t1, t2, t3, ())) := fun hG => by
    refine rd_agg_of hG (by simp) ?_
    simp [Tup.un, CT.un]
    rfl
  have k3 : Keep (fun _ => False) H H3 := ((Keep.push _ _ _).trans (Keep.push _ _ _)).trans k2
  obtain ⟨H4, a, n1, n2, n3, nB, nP, nS, n4⟩ := new_yes (B := B) (P := P) (S := S) (f := (t1, t2, t3, ())) (cuts := cuts) (fails := fails) (bad := bad) H3 hok (hcu.keep k3 fun _ _ _ => id) (hfa.keep k3 fun _ _ _ => id) (hba.keep k3 fun _ _ _ => id) hl1 hl2 hl3
  obtain ⟨H5, o1, o2, o3⟩ := nand_geometry n2
  have k5 : Keep (fun _ => False) H H5 := (k3.trans n3).trans o3
  have hl5 := k5.len
  let nB' : Blk := .cells [.ptr (some (a.c, 0)), .int .i64 0, .int .u8 0, .int .i64 0, .sl 1 ⟨none, 0, 0⟩, .sl 1 ⟨none, 0, 0⟩, .str [], .int .i64 0, .int .i64 0, .bool false, .bool false, .int .i64 0] .exact
  have hB : decide ((a.B : Int) = 0) = false := decide_eq_false (by omega)
  have hnew : bus_New (some (a.c, 0)) H4 = some ((some (H5.length, 0), 0, ()), H5 ++ [nB']) := by
    unfold bus_New
    simp only [o1, bind_some, hB, cond_f]
    rfl
  have hbx : Bx (H5 ++ [nB']) (fun x => x < H.length) H5.length a (Nd.new cuts fails bad) Bs.new ⟨none, 0, 0⟩ ⟨none, 0, 0⟩ :=
    { nd := o2.push _, cell := app_last, ga := Grown.ni _ 1, gi := Grown.ni _ 1, not := fun hf => by have := o2.own_lt hf; omega, na := fun x hx => (by cases hx), ni := fun x hx => (by cases hx), ai := fun x y hx => (by cases hx),
      lo := fun x hx => by have := n4 x hx; have := k3.len; omega, lb := by omega, fl := fun x hx => by simp; omega, sm := by decide }
  obtain ⟨H6, h, k, n, p1, p2, p3, p4, p5⟩ := probe_eq (⟨⟨_, _, hbx⟩, new_wf hfi (by omega), new_good⟩ : Bg _ _ _ _ _ Bs.new 0)
  refine ⟨H6, a, h, H5.length, k, n, ?_, p2, p3, p4, ((k5.trans (Keep.push _ _ _)).mono fun _ hh => hh.elim).trans p5, by rw [hsh]; unfold geoA; rw [nB, nP, nS], by omega⟩
  have eg : (g.1, g.2.1, g.2.2.1, ()) = g := rfl
  simp only [q1, q2, r1, bind_some, eg, rf f2', k1, rf f3', if_true, n1, hnew, p1, decide_true, cond_t]
theorem awake32 : law32_awake = some (true, ()) := by
  unfold law32_awake law32_awake.on
  obtain ⟨H1, a, h, b, k, n, b1, b2, b3, b4, b5, b6, b7⟩ := begun32 (H := []) (t1 := ⟨none, 0, 0⟩) (t2 := ⟨none, 0, 0⟩) (t3 := ⟨none, 0, 0⟩) (cuts := []) (fails := []) (bad := []) (0, 0, 0, ()) (Row.ni [] 3 0) (Row.ni [] 1 0) (Row.ni [] 1 0) (by decide) (by decide) (by decide) (fun x hx => by cases hx)
  have rg : @Eq (Option Geo) (rd (H1 ++ [Blk.cells [.int .i64 0, .int .i64 0, .int .i64 0] .exact]) (.agg [.int .i64, .int .i64, .int .i64]) h 1) (some (geoA a)) := by
    have hc : (H1 ++ [Blk.cells [.int .i64 0, .int .i64 0, .int .i64 0] .exact])[h]? = some (.cells (hoC (geoA a) b n) .exact) := by rw [app_lt (get_lt b2.cell)]; exact b2.cell
    refine rd_agg_of hc (by simp [hoC]) ?_
    simp [hoC, Tup.un, CT.un]
    rfl
  have w9 : wr (H1 ++ [Blk.cells [.int .i64 0, .int .i64 0, .int .i64 0] .exact]) H1.length 0 [.int .i64 (a.B : Int), .int .i64 (a.P : Int), .int .i64 (a.S : Int)] = some (H1 ++ [geoB (geoA a)]) := by
    rw [wr_last (by decide) (by simp)]; rfl
  have r9 : @Eq (Option Geo) (rd (H1 ++ [geoB (geoA a)]) (.agg [.int .i64, .int .i64, .int .i64]) H1.length 0) (some (geoA a)) := rd_geo app_last
  have hg : host_Host_Geometry (some (h, 0)) H1 = some ((geoA a, ()), H1 ++ [geoB (geoA a)]) := by
    unfold host_Host_Geometry
    simp only [Option.isNone_some, cond_f, bind_some, Nat.zero_add, rg, w9, r9]
  have o2 := b2.none (Keep.push (fun _ => False) H1 (geoB (geoA a)))
  obtain ⟨H2, g1, g2, g3⟩ := nand_geometry o2.bg.nd
  have o3 := o2.none g3
  have hp : host_Host_Polls (some (h, 0)) H2 = some (((n : Int), ()), H2) := by
    unfold host_Host_Polls
    simp only [Option.isNone_some, cond_f, bind_some, Nat.zero_add, o3.rn]
  simp only [b1, bind_some, cond_t, hg, g1, decide_true, Bool.and_true, hp, decide_eq_true (show (2 : Int) ≤ (n : Int) by omega)]
theorem HostNone_true (x0 x1 : Int) (_ : wfC (.int .i64 x0)) (_ : wfC (.int .i64 x1)) : law32_HostNone x0 x1 = some (true, ()) := by
  unfold law32_HostNone law32_HostNone.on
  have p1 : host_Probe none [] = some ((none, 1, ()), []) := rfl
  have p2 : host_Host_Read none x0 x1 [] = some (([], [], 1, ()), []) := rfl
  have p3 : host_Host_Marked none x0 [] = some ((false, 1, ()), []) := rfl
  have p4 : host_Host_Program none x0 x1 [] [] [] = some ((1, ()), []) := rfl
  have p5 : host_Host_Erase none x0 [] = some ((1, ()), []) := rfl
  have p6 : host_Host_Mark none x0 [] = some ((1, ()), []) := rfl
  have p7 : host_Host_Geometry none [] = some (((0, 0, 0, ()), ()), [geoB (0, 0, 0, ())]) := rfl
  have p8 : host_Host_Polls none [geoB (0, 0, 0, ())] = some ((0, ()), [geoB (0, 0, 0, ())]) := rfl
  simp only [p1, p2, p3, awake32, p4, p5, p6, p7, p8, bind_some, cond_t, decide_true, Bool.and_true]
end Ev
