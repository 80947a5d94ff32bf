/- BusWrites in plain Lean. -/
import Derived.Test.YtdjmipkijimajaaSLaw31b
namespace Ev
open Go (IntKind)

def at5 (st : Nat) (c : Int) (m n : Nat) (t : Bytes) : Bs := ⟨st, c, 5, leB 2 m ++ leB 3 n, t, [], 0, 0, false, false, 0⟩
/-- Bytes of an address that are not the last. -/
theorem address_more (a : NdA) (s : Nd) (c w : Int) (A : Bytes) (x : UInt8) (h : ((A ++ [x]).length : Int) < w) : Bs.address a s ⟨1, c, w, A, [], [], 0, 0, false, false, 0⟩ x = (s, ⟨1, c, w, A ++ [x], [], [], 0, 0, false, false, 0⟩) := by
  unfold Bs.address
  have h' : decide (((Bs.came ⟨1, c, w, A, [], [], 0, 0, false, false, 0⟩ x).addr.length : Int) < (⟨1, c, w, A, [], [], 0, 0, false, false, 0⟩ : Bs).want) = true := decide_eq_true h
  rw [h']; rfl
theorem address_last (a : NdA) (s : Nd) (c w : Int) (A : Bytes) (x : UInt8) (h : ¬ ((A ++ [x]).length : Int) < w) : Bs.address a s ⟨1, c, w, A, [], [], 0, 0, false, false, 0⟩ x = (cond (decide (c = 128)) (s, ⟨2, c, w, A ++ [x], [], [], 0, 0, false, false, 0⟩)
      (cond (decide (c = 144)) (s, (⟨3, c, w, A ++ [x], [], [], 0, 0, false, false, 0⟩ : Bs).tell [84, 66, 1])
          (cond (decide (c = 236)) (s, { (⟨3, c, w, A ++ [x], [], [], 0, 0, false, false, 0⟩ : Bs).tell (par3 a.B a.P a.S) with busy := 3 })
            (cond (decide (c = 160)) ((s.markT a ((⟨3, c, w, A ++ [x], [], [], 0, 0, false, false, 0⟩ : Bs).blk a)).2, { (⟨3, c, w, A ++ [x], [], [], 0, 0, false, false, 0⟩ : Bs).mk0 with fail := !decide ((s.markT a ((⟨3, c, w, A ++ [x], [], [], 0, 0, false, false, 0⟩ : Bs).blk a)).1 = 0) })
              (cond (decide (c = 165)) (s, (⟨3, c, w, A ++ [x], [], [], 0, 0, false, false, 0⟩ : Bs).marked (s.markedT a ((⟨3, c, w, A ++ [x], [], [], 0, 0, false, false, 0⟩ : Bs).blk a))) (s, ⟨3, c, w, A ++ [x], [], [], 0, 0, false, false, 0⟩)))))) := by
  unfold Bs.address
  have h' : decide (((Bs.came ⟨1, c, w, A, [], [], 0, 0, false, false, 0⟩ x).addr.length : Int) < (⟨1, c, w, A, [], [], 0, 0, false, false, 0⟩ : Bs).want) = false := decide_eq_false h
  rw [h']; rfl
theorem leB2 (m : Nat) : leB 2 m = [UInt8.ofNat (m % 256), UInt8.ofNat (m / 256 % 256)] := rfl
theorem leB3 (m : Nat) : leB 3 m = [UInt8.ofNat (m % 256), UInt8.ofNat (m / 256 % 256), UInt8.ofNat (m / 256 / 256 % 256)] := rfl
theorem addrs5 (a : NdA) (s : Nd) (c : Int) (u v x y z : UInt8) : addrs a (addrs a (s, ⟨1, c, 5, [], [], [], 0, 0, false, false, 0⟩) [u, v]) [x, y, z] = Bs.address a s ⟨1, c, 5, [u, v, x, y], [], [], 0, 0, false, false, 0⟩ z := by
  unfold addrs
  simp only [List.foldl_cons, List.foldl_nil]
  rw [address_more a s c 5 [] u (by simp)]
  simp only
  rw [address_more a s c 5 ([] ++ [u]) v (by simp)]
  simp only
  rw [address_more a s c 5 ([] ++ [u] ++ [v]) x (by simp)]
  simp only
  rw [address_more a s c 5 ([] ++ [u] ++ [v] ++ [x]) y (by simp)]
  rfl
theorem addrs128 (a : NdA) (s : Nd) (m n : Nat) : addrs a (addrs a (s, ⟨1, 128, 5, [], [], [], 0, 0, false, false, 0⟩) (leB 2 m)) (leB 3 n) = (s, at5 2 128 m n []) := by
  unfold at5
  rw [leB2, leB3, addrs5, address_last a s 128 5 _ _ (by simp)]; rfl
theorem addrs0 (a : NdA) (s : Nd) (m n : Nat) : addrs a (addrs a (s, ⟨1, 0, 5, [], [], [], 0, 0, false, false, 0⟩) (leB 2 m)) (leB 3 n) = (s, at5 3 0 m n []) := by
  unfold at5
  rw [leB2, leB3, addrs5, address_last a s 0 5 _ _ (by simp)]; rfl
theorem row5 (st : Nat) (c : Int) (m n : Nat) (t : Bytes) (h : n < 16777216) : (at5 st c m n t).row = n := by
  show valB ((leB 2 m ++ leB 3 n).drop ((leB 2 m ++ leB 3 n).length - 3)) = n
  rw [List.length_append, leB_length, leB_length, show 2 + 3 - 3 = (leB 2 m).length by rw [leB_length], List.drop_left]
  exact valB_leB 3 n (by simpa using h)
theorem col5 (st : Nat) (c : Int) (m n : Nat) (t : Bytes) (h : m < 65536) : (at5 st c m n t).col = m := by
  show valB ((leB 2 m ++ leB 3 n).take 2) = m
  have : (leB 2 m ++ leB 3 n).take (leB 2 m).length = leB 2 m := List.take_left
  rw [leB_length] at this
  rw [this]
  exact valB_leB 2 m (by simpa using h)
theorem go16 (a : NdA) (s : Nd) (m n : Nat) (t : Bytes) : (at5 2 128 m n t).command a s 16 = ((s.progT a ((at5 2 128 m n t).blk a) ((at5 2 128 m n t).pg a) (((at5 2 128 m n t).over a).take a.S) (((at5 2 128 m n t).over a).drop a.S)).2, (at5 2 128 m n t).wrote (s.progT a ((at5 2 128 m n t).blk a) ((at5 2 128 m n t).pg a) (((at5 2 128 m n t).over a).take a.S) (((at5 2 128 m n t).over a).drop a.S)).1) := rfl
theorem go48 (a : NdA) (s : Nd) (m n : Nat) (t : Bytes) : (at5 3 0 m n t).command a s 48 = (s, (at5 3 0 m n t).readF a s) := rfl
theorem in5 (a : NdA) (m n : Nat) (t : Bytes) (x : UInt8) (h : t.length < a.S + 32) : (at5 2 128 m n t).inF a x = at5 2 128 m n (t ++ [x]) := by
  unfold Bs.inF
  have : decide (((a.S + 32 : Nat) : Int) ≤ ((at5 2 128 m n t).inn.length : Int)) = false := decide_eq_false (by show ¬ ((a.S + 32 : Nat) : Int) ≤ (t.length : Int); omega)
  rw [this]; rfl
/-- The page that is written. -/
def page5 (a : NdA) (m : Nat) (t : Bytes) : Bytes := List.replicate m 255 ++ t ++ List.replicate (a.S + 32 - m - t.length) 255
theorem over5 (a : NdA) (m n : Nat) (t : Bytes) (h : m < 65536) (hm : m + t.length ≤ a.S + 32) : (at5 2 128 m n t).over a = page5 a m t := by
  unfold Bs.over
  rw [col5 _ _ _ _ _ h, Nat.min_eq_right (by omega)]
  show List.replicate m 255 ++ t.take (min t.length (a.S + 32 - m)) ++ List.replicate (a.S + 32 - m - min t.length (a.S + 32 - m)) 255 = _
  rw [Nat.min_eq_left (by omega), List.take_length]; rfl
theorem page5_length (a : NdA) (m : Nat) (t : Bytes) (hm : m + t.length ≤ a.S + 32) : (page5 a m t).length = a.S + 32 := by
  unfold page5
  simp only [List.length_append, List.length_replicate]
  omega
theorem page5_get (a : NdA) (m : Nat) (t : Bytes) (hm : m + t.length ≤ a.S + 32) {i : Nat} (hi : i < a.S + 32) : (page5 a m t)[i]'(by rw [page5_length a m t hm]; exact hi) = if h : m ≤ i ∧ i < m + t.length then t[i - m]'(by omega) else 255 := by
  unfold page5
  by_cases h1 : i < m
  · rw [dif_neg (by omega), List.getElem_append_left (by simp; omega), List.getElem_append_left (by simp; omega)]; simp
  · by_cases h2 : i < m + t.length
    · rw [dif_pos (by omega), List.getElem_append_left (by simp; omega), List.getElem_append_right (by simp; omega)]; simp
    · rw [dif_neg (by omega), List.getElem_append_right (by simp; omega)]; simp

/-- A page that is written, and what stands there then. -/
theorem prog5 {a : NdA} {i q : Nat} {t : Bytes} (hi : i < a.B) (hq : q < a.P) (ht : t.length = a.S + 32) : ∃ s1, (Nd.new [] [] []).progT a (i : Int) (q : Int) (t.take a.S) (t.drop a.S) = (0, s1) ∧ s1.did = 1 ∧ s1.readT a (i : Int) (q : Int) = (t.take a.S, t.drop a.S, 0, ()) := by
  have h0 : (Nd.new [] [] []).inE a (i : Int) (q : Int) = 0 := inE_ok rfl hi hq
  have hu : (Nd.new [] [] []).used a i q = false := used_false fun _ _ _ => rfl
  have ea : (Nd.new [] [] []).acted = { Nd.new [] [] [] with did := 1 } := acted_plain rfl
  refine ⟨({ Nd.new [] [] [] with did := 1 } : Nd).lay a i q t, ?_, rfl, ?_⟩
  · unfold Nd.progT
    rw [if_neg (by rw [h0]; simp), if_neg (by rw [List.length_take, List.length_drop]; omega), Int.toNat_natCast, Int.toNat_natCast, hu, List.take_append_drop]
    simp only [Bool.false_eq_true, if_false]
    rw [program_ok rfl rfl rfl, ea]
  · have h1 : (({ Nd.new [] [] [] with did := 1 } : Nd).lay a i q t).inE a (i : Int) (q : Int) = 0 := inE_ok rfl hi hq
    unfold Nd.readT
    rw [if_neg (by rw [h1]; simp), Int.toNat_natCast, Int.toNat_natCast, read_lay ht, if_pos ⟨rfl, rfl⟩]

theorem BusWrites_true (x0 : Geo) (x1 : Bytes) (x2 : Geo) (_ : ∀ c ∈ Tup.mk [.int .i64, .int .i64, .int .i64] x0, wfC c) (hx1 : x1.length ≤ 140737488351232) (h2 : ∀ c ∈ Tup.mk [.int .i64, .int .i64, .int .i64] x2, wfC c) : law31_BusWrites x0 x1 x2 = some (true, ()) := by
  unfold law31_BusWrites law31_BusWrites.on
  let gB : Blk := .cells [.int .i64 x0.1, .int .i64 x0.2.1, .int .i64 x0.2.2.1] .exact
  let aB : Blk := .cells [.int .i64 x2.1, .int .i64 x2.2.1, .int .i64 x2.2.2.1] .exact
  have y0 : wfC (.int .i64 x2.1) := h2 _ (by simp [Tup.mk, CT.mk])
  have y1 : wfC (.int .i64 x2.2.1) := h2 _ (by simp [Tup.mk, CT.mk])
  have y2 : wfC (.int .i64 x2.2.2.1) := h2 _ (by simp [Tup.mk, CT.mk])
  have q1 : ([] : Heap) ++ [Blk.cells [.int .i64 x0.1, .int .i64 x0.2.1, .int .i64 x0.2.2.1] .exact] = [gB] := rfl
  have q2 : [gB] ++ [Blk.cells [.int .i64 x2.1, .int .i64 x2.2.1, .int .i64 x2.2.2.1] .exact] = [gB, aB] := rfl
  have r1 := rd_geo (H := [gB, aB]) (k := ([] : Heap).length) (g := x0) (bk := .exact) rfl
  obtain ⟨H1, a, b, b1, b2, b3, b4⟩ := begun0 [gB, aB] x0
  have eg : (x0.1, x0.2.1, x0.2.2.1, ()) = x0 := rfl
  obtain ⟨H2, g1, g2, g3⟩ := b2.geometry
  have a1 : H2[1]? = some aB := g3.get (b3.get (k := 1) (x := aB) rfl id) (by simp)
  let zB : Blk := .cells [.int .i64 (a.B : Int), .int .i64 (a.P : Int), .int .i64 (a.S : Int)] .exact
  have w1 : wr (H2 ++ [Blk.cells [.int .i64 0, .int .i64 0, .int .i64 0] .exact]) H2.length 0 [.int .i64 (a.B : Int), .int .i64 (a.P : Int), .int .i64 (a.S : Int)] = some (H2 ++ [zB]) := by
    rw [wr_last (by decide) (by simp)]; rfl
  have rB : rdI .i64 (H2 ++ [zB]) H2.length 0 = some (a.B : Int) := rdI_of app_last rfl
  have rP : rdI .i64 (H2 ++ [zB]) H2.length 1 = some (a.P : Int) := rdI_of app_last rfl
  have rS : rdI .i64 (H2 ++ [zB]) H2.length 2 = some (a.S : Int) := rdI_of app_last rfl
  have a2 : (H2 ++ [zB])[1]? = some aB := by rw [app_lt (get_lt a1)]; exact a1
  have u0 : rdI .i64 (H2 ++ [zB]) 1 0 = some x2.1 := rdI_of a2 rfl
  have u1 : rdI .i64 (H2 ++ [zB]) 1 1 = some x2.2.1 := rdI_of a2 rfl
  have u2 : rdI .i64 (H2 ++ [zB]) 1 2 = some x2.2.2.1 := rdI_of a2 rfl
  have t0 : arrAt 1 3 ([gB].length, 0) 0 = some (1, 0) := rfl
  have t1 : arrAt 1 3 ([gB].length, 0) 1 = some (1, 1) := rfl
  have t2 : arrAt 1 3 ([gB].length, 0) 2 = some (1, 2) := rfl
  have hbp : a.B * a.P ≤ 165 := by
    have := Nat.mul_le_mul (show a.B ≤ 15 by omega) (show a.P ≤ 11 by omega)
    omega
  have hbp0 : 0 < a.B * a.P := Nat.mul_pos (by omega) (by omega)
  have ebp : IntKind.wrap .i64 ((a.B : Int) * (a.P : Int)) = ((a.B * a.P : Nat) : Int) := by rw [← Int.natCast_mul, wrap_i64 (by omega) (by omega)]
  have eS : IntKind.wrap .i64 ((a.S : Int) + 32) = ((a.S + 32 : Nat) : Int) := by rw [wrap_i64 (by omega) (by omega)]; omega
  obtain ⟨n, hn, en⟩ := tmod_nat x2.1 (a.B * a.P) hbp0 (by omega) y0
  obtain ⟨m, hm, em⟩ := tmod_nat x2.2.1 (a.S + 32) (by omega) (by omega) y1
  obtain ⟨fr, hfr, efr⟩ := tmod_nat x2.2.2.1 (a.S + 32) (by omega) (by omega) y2
  have d1 : decide (((a.B * a.P : Nat) : Int) = 0) = false := decide_eq_false (by omega)
  have d2 : decide (((a.S + 32 : Nat) : Int) = 0) = false := decide_eq_false (by omega)
  have em' : IntKind.wrap .i64 (((a.S + 32 : Nat) : Int) - (m : Int)) = ((a.S + 32 - m : Nat) : Int) := by rw [wrap_i64 (by omega) (by omega)]; omega
  have ef' : IntKind.wrap .i64 (((a.S + 32 : Nat) : Int) - (fr : Int)) = ((a.S + 32 - fr : Nat) : Int) := by rw [wrap_i64 (by omega) (by omega)]; omega
  have emin : (if ((a.S + 32 - m : Nat) : Int) < (x1.length : Int) then ((a.S + 32 - m : Nat) : Int) else (x1.length : Int)) = ((min (a.S + 32 - m) x1.length : Nat) : Int) := by split <;> omega
  have hsub : subS x1 0 ((min (a.S + 32 - m) x1.length : Nat) : Int) = some (x1.take (min (a.S + 32 - m) x1.length)) := by
    have := sub_of (s := x1) (lo := 0) (hi := min (a.S + 32 - m) x1.length) (Nat.zero_le _) (by omega)
    rw [List.drop_zero] at this
    exact this
  have htl : m + (x1.take (min (a.S + 32 - m) x1.length)).length ≤ a.S + 32 := by rw [List.length_take]; omega
  generalize x1.take (min (a.S + 32 - m) x1.length) = t at hsub htl
  -- the bus
  obtain ⟨H3, c1, c2, _⟩ := (g2.keep (Keep.push (fun _ => False) H2 zB) fun _ _ => id).command (by decide) 128
  rw [start a _ Bs.new 128 rfl (by decide) (by decide) rfl, show wantsN 128 = 5 from rfl, show Bs.new.fail = false from rfl, show Bs.new.wrong = 0 from rfl] at c2
  obtain ⟨H4, e1, e2, _⟩ := c2.send m 2 (by decide) (by decide)
  obtain ⟨H5, f1, f2, _⟩ := e2.send n 3 (by decide) (by decide)
  have f2' : Bg H5 [gB, aB].length b a (addrs a (addrs a (Nd.new [] [] [], ⟨1, 128, 5, [], [], [], 0, 0, false, false, 0⟩) (leB 2 m)) (leB 3 n)).1 (addrs a (addrs a (Nd.new [] [] [], ⟨1, 128, 5, [], [], [], 0, 0, false, false, 0⟩) (leB 2 m)) (leB 3 n)).2 6 := f2
  rw [addrs128] at f2'
  obtain ⟨H6, l1, l2⟩ := loop_up (step := law31_BusWrites.s1 ((some (a.c, 0), some (b, 0), true, ()), H1) t) (X := Unit) t.length (fun i => ((i : Int), ()))
    (fun i G => Bg G [gB, aB].length b a (Nd.new [] [] []) (at5 2 128 m n (t.take i)) (6 + i)) (fun G => Bg G [gB, aB].length b a (Nd.new [] [] []) (at5 2 128 m n t) 1000) ()
    (by
      intro i G hi hI
      obtain ⟨G1, o1, o2, _⟩ := hI.inn (by omega) t[i]
      rw [in5 _ _ _ _ _ (by rw [List.length_take]; omega), show t.take i ++ [t[i]] = t.take (i + 1) by simp] at o2
      refine ⟨G1, ?_, by rw [show (6 : Int) + ((i + 1 : Nat) : Int) = 6 + (i : Int) + 1 by omega]; exact o2⟩
      unfold law31_BusWrites.s1
      simp only [decide_eq_true (show (i : Int) < (t.length : Int) by omega), cond_t, idx_of hi, bind_some, o1, wrap_succ (show i < 9223372036854775807 by omega)])
    (by
      intro G hI
      rw [List.take_length] at hI
      refine ⟨G, ?_, hI.le (by omega) (by decide)⟩
      unfold law31_BusWrites.s1
      simp only [decide_eq_false (show ¬ (t.length : Int) < (t.length : Int) by omega), cond_f])
    (H := H5) (by rw [List.take_zero]; exact f2')
  obtain ⟨H7, i1, i2, _⟩ := l2.command (by decide) 16
  have hrow : (at5 2 128 m n t).row = n := row5 _ _ _ _ _ (by omega)
  have hnP : n / a.P < a.B := Nat.div_lt_of_lt_mul (by rw [Nat.mul_comm]; exact hn)
  have hnM : n % a.P < a.P := Nat.mod_lt _ (by omega)
  have hblk : (at5 2 128 m n t).blk a = ((n / a.P : Nat) : Int) := by unfold Bs.blk; rw [hrow]
  have hpg : (at5 2 128 m n t).pg a = ((n % a.P : Nat) : Int) := by unfold Bs.pg; rw [hrow]
  have hpl := page5_length a m t htl
  obtain ⟨s1, p1, p2, p3⟩ := prog5 (a := a) hnP hnM hpl
  rw [go16, over5 a m n t (by omega) htl, hblk, hpg, p1] at i2
  simp only at i2
  rw [show (at5 2 128 m n t).wrote 0 = ⟨0, 128, 5, leB 2 m ++ leB 3 n, t, [], 0, 7, false, false, 0⟩ from rfl] at i2
  obtain ⟨H8, j1, j2, _⟩ := i2.polls 7 (by decide) rfl
  obtain ⟨H9, k1, k2, _⟩ := j2.command (by decide) 112
  rw [show Bs.command a s1 (⟨0, 128, 5, leB 2 m ++ leB 3 n, t, [], 0, 0, false, false, 0⟩ : Bs) 112 = (s1, ⟨0, 128, 5, leB 2 m ++ leB 3 n, t, [], 0, 0, false, true, 0⟩) from rfl] at k2
  obtain ⟨H10, m1, m2, _⟩ := k2.out (by decide)
  rw [show Bs.outF (⟨0, 128, 5, leB 2 m ++ leB 3 n, t, [], 0, 0, false, true, 0⟩ : Bs) = (192, ⟨0, 128, 5, leB 2 m ++ leB 3 n, t, [], 0, 0, false, false, 0⟩) from rfl] at m1 m2
  obtain ⟨H11, n1, n2, _⟩ := m2.command (by decide) 0
  rw [start a _ _ 0 rfl (by decide) (by decide) rfl, show wantsN 0 = 5 from rfl] at n2
  simp only at n2
  obtain ⟨H12, o1, o2, _⟩ := n2.send fr 2 (by decide) (by decide)
  obtain ⟨H13, v1, v2, _⟩ := o2.send n 3 (by decide) (by decide)
  have v2' : Bg H13 [gB, aB].length b a (addrs a (addrs a (s1, ⟨1, 0, 5, [], [], [], 0, 0, false, false, 0⟩) (leB 2 fr)) (leB 3 n)).1 (addrs a (addrs a (s1, ⟨1, 0, 5, [], [], [], 0, 0, false, false, 0⟩) (leB 2 fr)) (leB 3 n)).2 1009 := v2
  rw [addrs0] at v2'
  obtain ⟨H14, z1, z2, _⟩ := v2'.command (by decide) 48
  have hrow' : (at5 3 0 fr n []).row = n := row5 _ _ _ _ _ (by omega)
  have hblk' : (at5 3 0 fr n []).blk a = ((n / a.P : Nat) : Int) := by unfold Bs.blk; rw [hrow']
  have hpg' : (at5 3 0 fr n []).pg a = ((n % a.P : Nat) : Int) := by unfold Bs.pg; rw [hrow']
  have hgot : (at5 3 0 fr n []).got a s1 = (page5 a m t).drop fr := by
    unfold Bs.got
    rw [hblk', hpg', p3, col5 _ _ _ _ _ (by omega)]
    simp only [List.take_append_drop, hpl]
    rw [Nat.min_eq_right (by omega)]
  have hread : (at5 3 0 fr n []).readF a s1 = ⟨4, 0, 5, leB 2 fr ++ leB 3 n, [], (page5 a m t).drop fr, 0, 3, false, false, 0⟩ := by
    unfold Bs.readF
    rw [hgot, hblk', hpg', p3]; rfl
  rw [go48, hread] at z2
  obtain ⟨H15, aa1, aa2, _⟩ := z2.polls 3 (by decide) rfl
  obtain ⟨H16, bb1, bb2, _⟩ := aa2.take (a.S + 32 - fr) (by omega) (by omega)
  have hdl : ((page5 a m t).drop fr).length = a.S + 32 - fr := by rw [List.length_drop, hpl]
  obtain ⟨tt1, tt2⟩ := told (⟨4, 0, 5, leB 2 fr ++ leB 3 n, [], (page5 a m t).drop fr, 0, 0, false, false, 0⟩ : Bs) rfl rfl rfl (a.S + 32 - fr) (by show 0 + _ ≤ ((page5 a m t).drop fr).length; omega)
  have tt2' : Bs.bytes (a.S + 32 - fr) (⟨4, 0, 5, leB 2 fr ++ leB 3 n, [], (page5 a m t).drop fr, 0, 0, false, false, 0⟩ : Bs) = (page5 a m t).drop fr := by
    rw [tt2]; show (((page5 a m t).drop fr).drop 0).take _ = _; rw [List.drop_zero, List.take_of_length_le (by omega)]
  rw [tt2'] at bb1
  rw [tt1] at bb2
  -- the page that is waited for
  have hmk := mkS_b (H := H16) (n := a.S + 32) (by omega)
  obtain ⟨H17, ll1, ll2, ll3⟩ := loop_up (step := law31_BusWrites.s2 (a.S : Int) x2.2.1 t (⟨some (H16.length, 0), a.S + 32, a.S + 32⟩, H16 ++ [.cells (cellsOf (List.replicate (a.S + 32) 0)) .exact])) (X := Unit) (a.S + 32) (fun i => ((i : Int), ()))
    (fun i G => G[H16.length]? = some (.cells (cellsOf ((page5 a m t).take i ++ List.replicate (a.S + 32 - i) 0)) .exact) ∧ Keep (fun _ => False) H16 G) (fun G => G[H16.length]? = some (.cells (cellsOf (page5 a m t)) .exact) ∧ Keep (fun _ => False) H16 G) ()
    (by
      intro i G hi ⟨i1, i2⟩
      have hat : Sl.at 1 ⟨some (H16.length, 0), a.S + 32, a.S + 32⟩ (i : Int) = some (H16.length, i) := by rw [at_of (by omega) (by omega), Int.toNat_natCast, Nat.mul_one, Nat.zero_add]
      have hset : ∀ (z : Nat) (x y : UInt8), setL (cellsOf ((page5 a m t).take i ++ y :: List.replicate z 0)) i [.int .u8 ((x.toNat : Nat) : Int)] = cellsOf ((page5 a m t).take i ++ x :: List.replicate z 0) := by
        intro z x y
        have := setL_mid [.int .u8 ((x.toNat : Nat) : Int)] [.int .u8 ((y.toNat : Nat) : Int)] (cellsOf ((page5 a m t).take i)) (cellsOf (List.replicate z 0)) i (by rw [cells_len, List.length_take]; omega) rfl
        rw [List.append_assoc, List.append_assoc] at this
        rw [cells_app, cells_app]
        exact this
      have hz : a.S + 32 - i = (a.S + 32 - (i + 1)) + 1 := by omega
      rw [hz, List.replicate_succ] at i1
      have e255 : (255 : Int) = (((255 : UInt8).toNat : Nat) : Int) := rfl
      have w1 := wr_of (o := i) (new := [.int .u8 255]) i1 (by decide) (by simp only [cells_len, List.length_append, List.length_take, List.length_cons, List.length_replicate, List.length_nil]; omega)
      rw [e255, hset, ← e255] at w1
      have hstep : ∀ x : UInt8, x = (page5 a m t)[i]'(by omega) → (page5 a m t).take i ++ x :: List.replicate (a.S + 32 - (i + 1)) 0 = (page5 a m t).take (i + 1) ++ List.replicate (a.S + 32 - (i + 1)) 0 := by
        intro x hx
        rw [hx, ← (show (page5 a m t).take i ++ [(page5 a m t)[i]'(by omega)] = (page5 a m t).take (i + 1) by simp), List.append_assoc]; rfl
      have hpg5 := page5_get a m t htl hi
      unfold law31_BusWrites.s2
      simp only [eS, decide_eq_true (show (i : Int) < ((a.S + 32 : Nat) : Int) by omega), cond_t, hat, bind_some, w1, em]
      have ewm : IntKind.wrap .i64 ((m : Int) + (t.length : Int)) = ((m + t.length : Nat) : Int) := by rw [wrap_i64 (by omega) (by omega)]; omega
      have kp : ∀ z, Keep (fun x => x = H16.length) G (G.set H16.length z) := fun z => Keep.set _ _ _ rfl
      have k1 : ∀ {G' : Heap}, Keep (fun x => x = H16.length) G G' → Keep (fun _ => False) H16 G' := fun k => ⟨by have := i2.len; have := k.len; omega, fun x hx hf => by rw [k.same x (by have := i2.len; omega) (by omega), i2.same x hx hf]⟩
      by_cases hin : m ≤ i ∧ i < m + t.length
      · rw [dif_pos hin] at hpg5
        have c1 : (G.set H16.length (.cells (cellsOf ((page5 a m t).take i ++ (255 : UInt8) :: List.replicate (a.S + 32 - (i + 1)) 0)) .exact))[H16.length]? = some (.cells (cellsOf ((page5 a m t).take i ++ (255 : UInt8) :: List.replicate (a.S + 32 - (i + 1)) 0)) .exact) := set_get (get_lt i1)
        have w2 := wr_of (o := i) (new := [.int .u8 (((t[i - m]'(by omega)).toNat : Nat) : Int)]) c1 (by decide) (by simp only [cells_len, List.length_append, List.length_take, List.length_cons, List.length_replicate, List.length_nil]; omega)
        rw [hset] at w2
        have ewi : IntKind.wrap .i64 ((i : Int) - (m : Int)) = ((i - m : Nat) : Int) := by rw [wrap_i64 (by omega) (by omega)]; omega
        refine ⟨(G.set H16.length (.cells (cellsOf ((page5 a m t).take i ++ (255 : UInt8) :: List.replicate (a.S + 32 - (i + 1)) 0)) .exact)).set H16.length (.cells (cellsOf ((page5 a m t).take i ++ t[i - m]'(by omega) :: List.replicate (a.S + 32 - (i + 1)) 0)) .exact), ?_, by rw [set_get (by rw [List.length_set]; exact get_lt i1), hstep _ hpg5.symm], k1 ((kp _).trans (Keep.set _ _ _ rfl))⟩
        simp only [decide_eq_true (show (m : Int) ≤ (i : Int) by omega), cond_t, ewm, decide_eq_true (show (i : Int) < ((m + t.length : Nat) : Int) by omega), bind_some, ewi, idx_of (show i - m < t.length by omega), hat, w2, wrap_succ (show i < 9223372036854775807 by omega)]
      · rw [dif_neg hin] at hpg5
        refine ⟨G.set H16.length (.cells (cellsOf ((page5 a m t).take i ++ (255 : UInt8) :: List.replicate (a.S + 32 - (i + 1)) 0)) .exact), ?_, by rw [set_get (get_lt i1), hstep _ hpg5.symm], k1 (kp _)⟩
        by_cases h3 : m ≤ i
        · simp only [decide_eq_true (show (m : Int) ≤ (i : Int) by omega), cond_t, ewm, decide_eq_false (show ¬ (i : Int) < ((m + t.length : Nat) : Int) by omega), bind_some, cond_f, wrap_succ (show i < 9223372036854775807 by omega)]
        · simp only [decide_eq_false (show ¬ (m : Int) ≤ (i : Int) by omega), bind_some, cond_f, wrap_succ (show i < 9223372036854775807 by omega)])
    (by
      intro G ⟨i1, i2⟩
      refine ⟨G, ?_, by rw [i1, Nat.sub_self, List.replicate_zero, List.append_nil, List.take_of_length_le (by omega)], i2⟩
      unfold law31_BusWrites.s2
      simp only [eS, decide_eq_false (show ¬ ((a.S + 32 : Nat) : Int) < ((a.S + 32 : Nat) : Int) by omega), cond_f])
    (H := H16 ++ [.cells (cellsOf (List.replicate (a.S + 32) 0)) .exact]) ⟨by rw [app_last, List.take_zero, List.nil_append, Nat.sub_zero], Keep.push _ _ _⟩
  have bb3 := bb2.keep ll3 fun _ _ => id
  have hsl := sub_ok (b := H16.length) (o := 0) (len := a.S + 32) (cap := a.S + 32) (lo := fr) (hi := a.S + 32) (by omega) (Nat.le_refl _)
  rw [Nat.zero_add] at hsl
  have hst : strOf H17 ⟨some (H16.length, fr), a.S + 32 - fr, a.S + 32 - fr⟩ = some ((page5 a m t).drop fr) := strOf_of ll2 (by rw [cells_len]; omega) (by rw [cells_drop, List.take_of_length_le]; rw [List.length_drop, cells_len]; omega)
  obtain ⟨H18, cc1, cc2, _⟩ := bb3.out (by omega)
  rw [silent _ rfl rfl rfl (by show ((page5 a m t).drop fr).length ≤ 0 + (a.S + 32 - fr); omega)] at cc1 cc2
  have dd1 := cc2.wrong
  have dd2 := cc2.did
  rw [p2] at dd2
  have l1' : loopW (law31_BusWrites.s1 ((some (a.c, 0), some (b, 0), true, ()), H1) t) (0, ()) H5 = some ((), H6) := l1
  have ll1' : loopW (law31_BusWrites.s2 (a.S : Int) x2.2.1 t (⟨some (H16.length, 0), a.S + 32, a.S + 32⟩, H16 ++ [.cells (cellsOf (List.replicate (a.S + 32) 0)) .exact])) (0, ()) (H16 ++ [.cells (cellsOf (List.replicate (a.S + 32) 0)) .exact]) = some ((), H17) := ll1
  have e1' : law31_send (some (b, 0)) (m : Int) 2 H3 = some ((), H4) := e1
  have f1' : law31_send (some (b, 0)) (n : Int) 3 H4 = some ((), H5) := f1
  have j1' : law31_polls (some (b, 0)) H7 = some ((7, ()), H8) := j1
  have o1' : law31_send (some (b, 0)) (fr : Int) 2 H11 = some ((), H12) := o1
  have v1' : law31_send (some (b, 0)) (n : Int) 3 H12 = some ((), H13) := v1
  have aa1' : law31_polls (some (b, 0)) H14 = some ((3, ()), H15) := aa1
  simp only [q1, q2, r1, bind_some, eg, b1, awake31, Bool.not_true, cond_f, g1, w1, rS, rB, rP, t0, t1, t2, u0, u1, u2, ebp, eS, d1, d2, en, em, efr, em', ef', emin, hsub, c1, e1', f1', l1', i1, j1', k1, m1, n1, o1', v1', z1, aa1', bb1, hmk, ll1', decide_true, cond_t, hsl, hst, cc1, dd1, dd2]
end Ev
