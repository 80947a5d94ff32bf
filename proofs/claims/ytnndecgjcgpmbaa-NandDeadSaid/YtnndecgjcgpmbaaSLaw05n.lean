/- NandNone: no chip does nothing. NandArm: faults that come later count from there on. In plain Lean. -/
import Derived.Test.YtnndecgjcgpmbaaSLaw05
namespace Ev
open Go (IntKind)

theorem geo_nat {g : Geo} (h : geoOK g = true) : ∃ B P S : Nat, g = ((B : Int), (P : Int), (S : Int), ()) := by
  obtain ⟨x, y, z, u⟩ := g
  have h := of_decide_eq_true h
  simp only at h
  exact ⟨x.toNat, y.toNat, z.toNat, by rw [Int.toNat_of_nonneg (by omega), Int.toNat_of_nonneg (by omega), Int.toNat_of_nonneg (by omega)]⟩

theorem NandNone_true (x0 : Geo) (x1 x2 : Int) (_ : ∀ c ∈ Tup.mk [.int .i64, .int .i64, .int .i64] x0, wfC c) (_ : wfC (.int .i64 x1)) (_ : wfC (.int .i64 x2)) : law05_NandNone x0 x1 x2 = some (true, ()) := by
  unfold law05_NandNone law05_NandNone.on
  let gB : Blk := .cells [.int .i64 x0.1, .int .i64 x0.2.1, .int .i64 x0.2.2.1] .exact
  let fB : Blk := .cells [.sl 3 ⟨none, 0, 0⟩, .sl 1 ⟨none, 0, 0⟩, .sl 1 ⟨none, 0, 0⟩] .exact
  have p1 : ∀ H, nand_Chip_Power none H = some ((), H) := fun _ => rfl
  have p2 : ∀ H, nand_Chip_Arm none (⟨none, 0, 0⟩, ⟨none, 0, 0⟩, ⟨none, 0, 0⟩, ()) H = some ((), H ++ [fB]) := fun _ => rfl
  have p3 : ∀ H, nand_Chip_Read none x1 x2 H = some (([], [], 1, ()), H) := fun _ => rfl
  have p4 : ∀ H, nand_Chip_Marked none x1 H = some ((false, 1, ()), H) := fun _ => rfl
  have p5 : ∀ H, nand_Chip_Program none x1 x2 [] [] H = some ((1, ()), H) := fun _ => rfl
  have p6 : ∀ H, nand_Chip_Erase none x1 H = some ((1, ()), H) := fun _ => rfl
  have p7 : ∀ H, nand_Chip_Mark none x1 H = some ((1, ()), H) := fun _ => rfl
  have p8 : ∀ H, nand_Chip_Off none H = some ((true, ()), H) := fun _ => rfl
  have p9 : ∀ H, nand_Chip_Did none H = some ((0, ()), H) := fun _ => rfl
  have pa : ∀ H, nand_Chip_Worn none H = some ((⟨none, 0, 0⟩, ()), H) := fun _ => rfl
  have pb : ∀ H, nand_Chip_Dead none H = some ((⟨none, 0, 0⟩, ()), H) := fun _ => rfl
  have q : ([] : Heap) ++ [Blk.cells [.int .i64 x0.1, .int .i64 x0.2.1, .int .i64 x0.2.2.1] .exact] = [gB] := rfl
  have q2 : ([gB] : Heap) ++ [fB] = [gB, fB] := rfl
  have r0 : rdI .i64 [gB, fB] 0 0 = some x0.1 := rfl
  have r1 : rdI .i64 [gB, fB] 0 1 = some x0.2.1 := rfl
  have r2 : rdI .i64 [gB, fB] 0 2 = some x0.2.2.1 := rfl
  have r3 := rd_geo (H := [gB, fB]) (k := 0) (g := x0) (bk := .exact) rfl
  simp only [q, p1, bind_some, p2, q2, p3, p4, List.length_nil, r0, r1, r2]
  have hok : (cond (decide (8 ≤ x0.1)) (cond (decide (x0.1 ≤ 32)) (cond (decide (4 ≤ x0.2.1)) (cond (decide (x0.2.1 ≤ 16)) (cond (decide (64 ≤ x0.2.2.1)) (some ((decide (x0.2.2.1 ≤ 256), ()), [gB, fB])) (some ((false, ()), [gB, fB]))) (some ((false, ()), [gB, fB]))) (some ((false, ()), [gB, fB]))) (some ((false, ()), [gB, fB]))) (some ((false, ()), [gB, fB])) : Option ((Bool × Unit) × Heap)) = some ((geoOK x0, ()), [gB, fB]) := by
    unfold geoOK
    by_cases h1 : 8 ≤ x0.1
    · by_cases h2 : x0.1 ≤ 32
      · by_cases h3 : 4 ≤ x0.2.1
        · by_cases h4 : x0.2.1 ≤ 16
          · by_cases h5 : 64 ≤ x0.2.2.1
            · by_cases h6 : x0.2.2.1 ≤ 256 <;> simp [h1, h2, h3, h4, h5, h6]
            · simp [h1, h2, h3, h4, h5]
          · simp [h1, h2, h3, h4]
        · simp [h1, h2, h3]
      · simp [h1, h2]
    · simp [h1]
  rw [hok]
  simp only [bind_some, r3]
  have hnew : ∃ G p e, nand_New (x0.1, x0.2.1, x0.2.2.1, ()) (⟨none, 0, 0⟩, ⟨none, 0, 0⟩, ⟨none, 0, 0⟩, ()) [gB, fB] = some ((p, e, ()), G) ∧ Keep (fun _ => False) [gB, fB] G ∧ decide (e = 0) = geoOK x0 ∧ (!(Option.isNone p)) = geoOK x0 := by
    cases hg : geoOK x0 with
    | false =>
      obtain ⟨G, g1, g2⟩ := new_no (g := x0) (f := (⟨none, 0, 0⟩, ⟨none, 0, 0⟩, ⟨none, 0, 0⟩, ())) [gB, fB] hg
      exact ⟨G, none, 1, g1, g2, rfl, rfl⟩
    | true =>
      obtain ⟨B, P, S, rfl⟩ := geo_nat hg
      obtain ⟨G, a, g1, g2, g3, _⟩ := new_yes (B := B) (P := P) (S := S) (f := (⟨none, 0, 0⟩, ⟨none, 0, 0⟩, ⟨none, 0, 0⟩, ())) (cuts := []) (fails := []) (bad := []) [gB, fB] hg (Row.ni _ 3 0) (Row.ni _ 1 0) (Row.ni _ 1 0) (by decide) (by decide) (by decide)
      exact ⟨G, some (a.c, 0), 0, g1, g3, rfl, rfl⟩
  obtain ⟨G, p, e, n1, n2, n3, n4⟩ := hnew
  obtain ⟨G2, m1, m2⟩ := geometry_nil G
  have hg2 : G2[0]? = some gB := (n2.trans m2).get (A := [gB, fB]) rfl id
  have r4 := rd_geo (H := G2) (k := 0) (g := x0) (bk := .exact) hg2
  have ck : nand_Check (x0.1, x0.2.1, x0.2.2.1, ()) = some (geoOK x0, ()) := nand_Check_eq x0
  have e0 : decide ((((0 : Nat)) : Int) = 0) = true := rfl
  simp only [n1, bind_some, awake05, cond_t, decide_true, p5, p6, p7, p8, p9, pa, pb, e0, m1, Bool.and_self, r4, ck, beq_self_eq_true, n3, n4]

/-! NandArm. -/
structure Calm (s : Nd) (n : Int) : Prop where
  fails : s.fails = []
  off : s.off = false
  dead : ∀ b, s.dead b = false
  did : s.did = n
  worn : ∀ b, 0 ≤ s.worn b ∧ s.worn b ≤ 100000

/-- An erasure in which nothing happens. -/
theorem erase_calm {H : Heap} {a : NdA} {s : Nd} {n : Int} (h : NdAt H a s) (k : Calm s n) (hn : 0 ≤ n ∧ n ≤ 100000) (hc : s.cutNow = none) (hcu : ∀ x ∈ s.cuts, 0 ≤ x.2.2.1 ∧ x.2.2.1 < 256) {b : Nat} (hb : b < a.B) (hP : 0 < a.P) (hw : s.worn b < 100000) :
    ∃ H' s', nand_Chip_Erase (some (a.c, 0)) (b : Int) H = some ((0, ()), H') ∧ NdAt H' a s' ∧ Calm s' (n + 1) ∧ s'.cuts = s.cuts ∧ s'.worn = upd s.worn b (s.worn b + 1) ∧ Keep a.fp H H' := by
  have hwb := k.worn b
  obtain ⟨H', q1, q2, q3⟩ := nand_erase h (by rw [k.did]; omega) hcu k.off hb hP (by omega)
  rw [erase_ok hc (k.dead b) (failNow_nil k.fails)] at q1 q2
  refine ⟨H', _, q1, q2, ?_, rfl, rfl, q3⟩
  have ea := acted_plain hc
  refine ⟨by show s.acted.fails = []; rw [ea]; exact k.fails, by show s.acted.off = false; rw [ea]; exact k.off, fun b => by show s.acted.dead b = false; rw [ea]; exact k.dead b, by show s.acted.did = n + 1; rw [ea]; show s.did + 1 = n + 1; rw [k.did], fun c => ?_⟩
  show 0 ≤ upd s.worn b (s.worn b + 1) c ∧ upd s.worn b (s.worn b + 1) c ≤ 100000
  unfold upd
  split
  · omega
  · exact k.worn c

theorem erase_off (a : NdA) (s : Nd) (b : Nat) : (s.erase a b).2.off = (s.off || s.cutNow.isSome) ∧ (s.erase a b).2.did = s.did + 1 := by
  unfold Nd.erase
  cases hc : s.cutNow with
  | some x =>
    simp only
    split <;> exact ⟨by simp [Nd.lay, Nd.clear, Nd.acted, hc], rfl⟩
  | none =>
    simp only
    split <;> exact ⟨by simp [Nd.clear, Nd.acted, hc], rfl⟩

theorem cut1_none {s : Nd} {x : Cut} (h : s.cuts = [x]) (hx : x.1 ≠ s.did + 1) : s.cutNow = none := by
  unfold Nd.cutNow
  rw [h, List.find?_cons, show (x.1 == s.did + 1) = false by simpa using hx]; rfl
theorem cut1_some {s : Nd} {x : Cut} (h : s.cuts = [x]) (hx : x.1 = s.did + 1) : s.cutNow = some x := by
  unfold Nd.cutNow
  rw [h, List.find?_cons, show (x.1 == s.did + 1) = true by simpa using hx]

/-- One cut, as a row. -/
theorem row_cut {H : Heap} (x : Cut) : Row (H ++ [cutB x]) 3 ⟨some (H.length, 0), 1, 1⟩ (cutC [x]) := ⟨row_last (by rfl), fun h => by cases h⟩

theorem NandArm_true (x0 : Geo) (x1 x2 : Int) (_ : ∀ c ∈ Tup.mk [.int .i64, .int .i64, .int .i64] x0, wfC c) (_ : wfC (.int .i64 x1)) (_ : wfC (.int .i64 x2)) : law05_NandArm x0 x1 x2 = some (true, ()) := by
  unfold law05_NandArm law05_NandArm.on
  obtain ⟨B, P, S, hsh, hB0, hB1, hP0, hP1, hS0, hS1, hok⟩ := shape_nat x0
  have m1 := and_ones (k := .i64) (x := x1) (m := 7) 3 (by decide) (by decide)
  have m2 := and_ones (k := .i64) (x := x2) (m := 7) 3 (by decide) (by decide)
  have e2 : IntKind.wrap .i64 (1 + bitsI .and .i64 x2 7) = 1 + bitsI .and .i64 x2 7 := wrap_i64 (by omega) (by omega)
  obtain ⟨k1, hk1, hk1l⟩ : ∃ k : Nat, bitsI .and .i64 x1 7 = (k : Int) ∧ k ≤ 7 := ⟨_, (Int.toNat_of_nonneg m1.1).symm, by omega⟩
  obtain ⟨n, hn, hn0, hn1⟩ : ∃ n : Nat, 1 + bitsI .and .i64 x2 7 = (n : Int) ∧ 1 ≤ n ∧ n ≤ 8 := ⟨(1 + bitsI .and .i64 x2 7).toNat, (Int.toNat_of_nonneg (by omega)).symm, by omega, by omega⟩
  let gB : Blk := .cells [.int .i64 x0.1, .int .i64 x0.2.1, .int .i64 x0.2.2.1] .exact
  let hB : Blk := .cells [.int .i64 (B : Int), .int .i64 (P : Int), .int .i64 (S : Int)] .exact
  have r1 := rd_geo (H := [gB]) (k := 0) (g := x0) (bk := .exact) rfl
  have q1 : ([] : Heap) ++ [Blk.cells [.int .i64 x0.1, .int .i64 x0.2.1, .int .i64 x0.2.2.1] .exact] = [gB] := rfl
  have ge : law05_Geometry (x0.1, x0.2.1, x0.2.2.1, ()) = some (((B : Int), (P : Int), (S : Int), ()), ()) := by rw [← hsh]; exact geometry_eq x0
  have w1 : wr ([gB] ++ [Blk.cells [.int .i64 0, .int .i64 0, .int .i64 0] .exact]) [gB].length 0 [.int .i64 (B : Int), .int .i64 (P : Int), .int .i64 (S : Int)] = some [gB, hB] := rfl
  have r2 := rd_geo (H := [gB, hB]) (k := 1) (g := ((B : Int), (P : Int), (S : Int), ())) (bk := .exact) rfl
  let c1 : Cut := (1000, 0, 0, ())
  have q2 : ([gB, hB] : Heap) ++ [Blk.cells [.int .i64 1000, .int .i64 0, .int .u8 0] .exact] = [gB, hB] ++ [cutB c1] := rfl
  obtain ⟨H1, a, n1, n2, n3, nB, nP, nS, n4⟩ := new_yes (B := B) (P := P) (S := S) (f := (⟨some (([gB, hB] : Heap).length, 0), 1, 1⟩, ⟨none, 0, 0⟩, ⟨none, 0, 0⟩, ())) (cuts := [c1]) (fails := []) (bad := []) ([gB, hB] ++ [cutB c1]) hok (row_cut c1) (Row.ni _ 1 0) (Row.ni _ 1 0) (by decide) (by decide) (by decide)
  have rl : [gB].length = 1 := rfl
  simp only [q1, List.length_nil, r1, bind_some, ge, w1]
  rw [rl, r2]
  simp only [bind_some, q2, n1, awake05, Bool.not_true, cond_f, decide_true, e2, hn]
  -- the first erasures
  have hcu : ∀ x ∈ [c1], 0 ≤ x.2.2.1 ∧ x.2.2.1 < 256 := by intro x hx; simp at hx; subst hx; decide
  have hPa : 0 < a.P := by rw [nP]; omega
  obtain ⟨y, G, l1, rfl, s1, l2, l3, l4⟩ := loopW_run (step := law05_NandArm.s1 x1 ((some (a.c, 0), 0, ()), H1)) (fun t G => ∃ i : Nat, i ≤ k1 ∧ t.1 = (i : Int) ∧ ∃ s, NdAt G a s ∧ Calm s (i : Int) ∧ s.cuts = [c1] ∧ ∀ b, s.worn b ≤ i)
    (fun y G => y = .inl () ∧ ∃ s, NdAt G a s ∧ Calm s (k1 : Int) ∧ ∀ b, s.worn b ≤ k1) (fun t _ => k1 - t.1.toNat)
    (by
      rintro ⟨j, u⟩ G ⟨i, hi, hj, s, hs, kc, hcs, hwn⟩
      have hj : j = (i : Int) := hj
      subst hj
      unfold law05_NandArm.s1
      rw [hk1]
      by_cases hlt : i < k1
      · obtain ⟨G', s', v1, v2, v3, v4, v5, v6⟩ := erase_calm hs kc (by omega) (cut1_none hcs (by rw [kc.did]; show (1000 : Int) ≠ _; omega)) (by rw [hcs]; exact hcu) (b := i) (by rw [nB]; omega) hPa (by have := hwn i; omega)
        simp only [decide_eq_true (show (i : Int) < (k1 : Int) by omega), cond_t, v1, bind_some, decide_true, Bool.not_true, cond_f, Round, wrap_succ (show i < 9223372036854775807 by omega)]
        refine ⟨⟨i + 1, hlt, rfl, s', v2, v3, by rw [v4, hcs], fun b => ?_⟩, by simp; omega⟩
        rw [v5]
        unfold upd
        have h1 := hwn b
        have h2 := hwn i
        split
        · have : s.worn i ≤ i := h2
          omega
        · omega
      · have : i = k1 := by omega
        subst this
        simp only [decide_eq_false (show ¬ (i : Int) < (i : Int) by omega), cond_f, Round]
        exact ⟨trivial, s, hs, kc, hwn⟩) (0, ()) H1 ⟨0, Nat.zero_le _, rfl, _, n2, ⟨rfl, rfl, fun _ => rfl, rfl, fun _ => ⟨by show (0 : Int) ≤ 0; decide, by show (0 : Int) ≤ 100000; decide⟩⟩, rfl, fun _ => by show (0 : Int) ≤ _; decide⟩
  have l1' : loopW (law05_NandArm.s1 x1 ((some (a.c, 0), 0, ()), H1)) (0, ()) H1 = some (.inl (), G) := l1
  simp only [l1', bind_some, sum0]
  -- armed
  let c2 : Cut := ((n : Int), 0, 0, ())
  have q3 : G ++ [Blk.cells [.int .i64 (n : Int), .int .i64 0, .int .u8 0] .exact] = G ++ [cutB c2] := rfl
  obtain ⟨G2, t1, t2, v1, v2, v3, _, _⟩ := nand_arm (l2.push (cutB c2)) (f := (⟨some (G.length, 0), 1, 1⟩, ⟨none, 0, 0⟩, ⟨none, 0, 0⟩, ())) (cuts := [c2]) (fails := []) (row_cut c2) (Row.ni _ 1 0) (by simp) (by simp)
  have e2n : IntKind.wrap .i64 (n : Int) = (n : Int) := wrap_i64 (by omega) (by omega)
  simp only [e2n, q3, v1, bind_some]
  have hcu2 : ∀ x ∈ [c2], 0 ≤ x.2.2.1 ∧ x.2.2.1 < 256 := by intro x hx; simp at hx; subst hx; exact ⟨by show (0 : Int) ≤ 0; decide, by show (0 : Int) < 256; decide⟩
  generalize hs2 : ({ s1 with cuts := [c2], fails := [], did := 0 } : Nd) = s2 at v2
  have kc2 : Calm s2 0 := by rw [← hs2]; exact ⟨rfl, l3.off, l3.dead, rfl, l3.worn⟩
  have hcs2 : s2.cuts = [c2] := by rw [← hs2]
  have hw2 : ∀ b, s2.worn b ≤ 7 := by rw [← hs2]; intro b; have := l4 b; show s1.worn b ≤ 7; omega
  obtain ⟨a2, ha2⟩ : ∃ a2 : NdA, ({ a with cs := t1, fs := t2 } : NdA) = a2 := ⟨_, rfl⟩
  rw [ha2] at v2
  have a2c : a2.c = a.c := by rw [← ha2]
  have a2B : a2.B = B := by rw [← ha2]; exact nB
  have a2P : a2.P = P := by rw [← ha2]; exact nP
  rw [← a2c]
  have hP2 : 0 < a2.P := by rw [a2P]; omega
  obtain ⟨y, G3, u1, rfl, s3, u2, u3, u4⟩ := loopW_run (step := law05_NandArm.s2 x2 ((some (a2.c, 0), 0, ()), H1)) (fun t G => ∃ i : Nat, 1 ≤ i ∧ i ≤ n + 1 ∧ t.1 = (i : Int) ∧ ∃ s, NdAt G a2 s ∧ s.cuts = [c2] ∧ (∀ b, s.worn b ≤ 7 + i) ∧ (i ≤ n → Calm s ((i : Int) - 1)) ∧ (i = n + 1 → s.off = true ∧ s.did = n))
    (fun y G => y = .inl () ∧ ∃ s, NdAt G a2 s ∧ s.off = true ∧ s.did = n) (fun t _ => n + 1 - t.1.toNat)
    (by
      rintro ⟨j, u⟩ G ⟨i, hi0, hi, hj, s, hs, hcs, hwn, h1, h2⟩
      have hj : j = (i : Int) := hj
      subst hj
      unfold law05_NandArm.s2
      simp only [hn, e2n]
      by_cases hlt : i ≤ n
      · have kc := h1 hlt
        have hd : decide ((i : Int) ≤ (n : Int)) = true := decide_eq_true (by omega)
        by_cases he : i = n
        · subst he
          have hcn := cut1_some hcs (by rw [kc.did]; show (i : Int) = _; omega)
          have hw0 := hwn 0
          have hw1 := kc.worn 0
          obtain ⟨G', g1, g2, g3⟩ := nand_erase hs (by rw [kc.did]; omega) (by rw [hcs]; exact hcu2) kc.off (b := 0) (by rw [a2B]; omega) hP2 (by omega)
          have e51 : (s.erase a2 0).1 = 51 := by unfold Nd.erase; rw [hcn]
          obtain ⟨o1, o2⟩ := erase_off a2 s 0
          rw [e51] at g1
          have g1' : nand_Chip_Erase (some (a2.c, 0)) 0 G = some ((51, ()), G') := g1
          have oc : (s.erase a2 0).2.cuts = [c2] := by
            unfold Nd.erase; rw [hcn]; simp only; split <;> exact hcs
          have ow : ∀ b, (s.erase a2 0).2.worn b ≤ 7 + ((i + 1 : Nat) : Int) := by
            intro b
            have : (s.erase a2 0).2.worn = upd s.worn 0 (s.worn 0 + 1) := by
              unfold Nd.erase; rw [hcn]; simp only; split <;> rfl
            rw [this]
            have := hwn b
            unfold upd
            split <;> omega
          simp only [hd, cond_t, g1', bind_some, decide_true, beq_self_eq_true, Bool.not_true, cond_f, Round, wrap_succ (show i < 9223372036854775807 by omega)]
          refine ⟨⟨i + 1, by omega, by omega, rfl, _, g2, oc, ow, fun hh => by omega, fun _ => ⟨by rw [o1, hcn]; simp, by rw [o2, kc.did]; omega⟩⟩, by simp⟩
        · obtain ⟨G', s', g1, g2, g3, g4, g5, g6⟩ := erase_calm hs kc (by omega) (cut1_none hcs (by rw [kc.did]; show (n : Int) ≠ _; omega)) (by rw [hcs]; exact hcu2) (b := 0) (by rw [a2B]; omega) hP2 (by have := hwn 0; omega)
          have g1' : nand_Chip_Erase (some (a2.c, 0)) 0 G = some ((0, ()), G') := g1
          have hd2 : decide ((i : Int) = (n : Int)) = false := decide_eq_false (by omega)
          have hd3 : decide ((0 : Int) = 51) = false := rfl
          simp only [hd, cond_t, g1', bind_some, hd2, hd3, beq_self_eq_true, Bool.not_true, cond_f, Round, wrap_succ (show i < 9223372036854775807 by omega)]
          refine ⟨⟨i + 1, by omega, by omega, rfl, s', g2, by rw [g4, hcs], fun b => ?_, fun _ => ?_, fun hh => by omega⟩, by simp; omega⟩
          · rw [g5]
            have h1 := hwn b
            have h2 := hwn 0
            unfold upd
            split <;> omega
          · have : ((i + 1 : Nat) : Int) - 1 = (i : Int) - 1 + 1 := by omega
            rw [this]; exact g3
      · have hie : i = n + 1 := by omega
        simp only [decide_eq_false (show ¬ (i : Int) ≤ (n : Int) by omega), cond_f, Round]
        exact ⟨trivial, s, hs, h2 hie⟩) (1, ()) G2 ⟨1, by omega, by omega, rfl, s2, v2, hcs2, fun b => by have := hw2 b; omega, fun _ => kc2, fun hh => by omega⟩
  have u1' : loopW (law05_NandArm.s2 x2 ((some (a2.c, 0), 0, ()), H1)) (1, ()) G2 = some (.inl (), G3) := u1
  have f1 := nand_off u2
  have f2 := nand_did u2
  have f3 : s3.inE a2 0 0 = 51 := by unfold Nd.inE; rw [if_pos u3]
  have f4 := erase_refused u2 (b := 0) (by rw [f3]; decide)
  rw [u3] at f1
  rw [u4] at f2
  rw [f3] at f4
  simp only [u1', bind_some, sum0, f1, cond_t, f2, decide_true, f4]
end Ev
