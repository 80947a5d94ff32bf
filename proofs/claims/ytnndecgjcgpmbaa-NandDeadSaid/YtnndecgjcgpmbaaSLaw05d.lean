/- NandDead: a block that failed once can be read, and never written or erased again. In plain Lean. -/
import Derived.Test.YtnndecgjcgpmbaaSLaw05o
namespace Ev
open Go (IntKind)

theorem row_int {H : Heap} (x : Int) : Row (H ++ [Blk.cells [.int .i64 x] .exact]) 1 ⟨some (H.length, 0), 1, 1⟩ (intC [x]) := ⟨row_last (by rfl), fun h => by cases h⟩

/-- A chip whose block 2 has pages ahead of m that say what they were told, and no others. -/
structure D1 (a : NdA) (s : Nd) (n m : Nat) : Prop where
  cuts : s.cuts = []
  fails : s.fails = [(n : Int) + 1]
  off : s.off = false
  dd : s.dead 2 = false
  dq : s.did = m
  worn : s.worn 2 = 0
  free : ∀ q : Nat, m ≤ q → q < a.P → s.pages 2 q = []
  has : ∀ q : Nat, q < m → s.pages 2 q = txt a.S (UInt8.ofNat (q + 1)) ++ txt 32 9
/-- The same, when it has failed. -/
structure D2 (a : NdA) (s : Nd) (n : Nat) (w : Int) : Prop where
  cuts : s.cuts = []
  off : s.off = false
  dd : s.dead 2 = true
  dq : 0 ≤ s.did ∧ s.did ≤ w
  worn : 0 ≤ s.worn 2 ∧ s.worn 2 ≤ w
  has : ∀ q : Nat, q < n → s.pages 2 q = txt a.S (UInt8.ofNat (q + 1)) ++ txt 32 9

theorem fail1 {s : Nd} {x : Int} (h : s.fails = [x]) : s.failNow = decide (s.did + 1 = x) := by unfold Nd.failNow; rw [h]; simp

theorem program_bad {a : NdA} {s : Nd} {b p : Nat} {t : Bytes} (h1 : s.cutNow = none) (h2 : s.dead b = true ∨ s.failNow = true) : s.program a b p t = (53, { s.acted with dead := upd s.dead b true }.lay a b p (List.replicate t.length 0)) := by
  unfold Nd.program
  rw [h1]
  simp only [if_pos h2]
theorem erase_bad {a : NdA} {s : Nd} {b : Nat} (h1 : s.cutNow = none) (h2 : s.dead b = true ∨ s.failNow = true) : s.erase a b = (54, { s.acted with worn := upd s.worn b (s.worn b + 1), dead := upd s.dead b true }) := by
  unfold Nd.erase
  rw [h1]
  simp only [if_pos h2]

theorem zeros_ne {a : NdA} {n : Nat} (hn : 0 < n) : List.replicate n (0 : UInt8) ≠ fullP a := by
  intro h
  have h1 : (0 : UInt8) ∈ fullP a := by rw [← h]; simp; omega
  exact absurd (List.eq_of_mem_replicate h1) (by decide)

/-- On a dead block: no. -/
theorem dead_write {G : Heap} {a : NdA} {s : Nd} {n : Nat} {w : Int} (h : NdAt G a s) (k : D2 a s n w) (hw : 0 ≤ w ∧ w ≤ 1000000) (hB : 2 < a.B) (hn : n + 1 < a.P) {d : Bytes} (hd : d.length = a.S) :
    ∃ G' e s', nand_Chip_Program (some (a.c, 0)) 2 ((n + 1 : Nat) : Int) d (txt 32 9) G = some ((e, ()), G') ∧ e ≠ 0 ∧ NdAt G' a s' ∧ D2 a s' n (w + 1) ∧ Keep a.fp G G' := by
  have h1 := k.dq
  have h2 := k.worn
  cases hu : s.used a 2 (n + 1) with
  | true =>
    exact ⟨G, 52, s, prog_used h (b := 2) (p := n + 1) k.off hB hn hd rfl hu, by decide, h, ⟨k.cuts, k.off, k.dd, by omega, by omega, k.has⟩, Keep.refl _ _⟩
  | false =>
    obtain ⟨G', g1, g2, g3⟩ := nand_program h (by omega) (by rw [k.cuts]; intro x hx; cases hx) (b := 2) (p := n + 1) k.off hB hn (d := d) (sp := txt 32 9) hd rfl hu
    have hc := cutNow_nil k.cuts
    rw [program_bad hc (.inl k.dd)] at g1 g2
    refine ⟨G', 53, _, g1, by decide, g2, ?_, g3⟩
    have hz := zeros_ne (a := a) (n := (d ++ txt 32 9).length) (by simp [txt])
    rw [acted_plain hc]
    refine ⟨k.cuts, k.off, by show upd s.dead 2 true 2 = true; simp [upd], by show 0 ≤ s.did + 1 ∧ s.did + 1 ≤ w + 1; omega, by show 0 ≤ s.worn 2 ∧ s.worn 2 ≤ w + 1; omega, fun q hq => ?_⟩
    rw [lay_get hz, if_neg (by omega)]
    exact k.has q hq
theorem dead_erase {G : Heap} {a : NdA} {s : Nd} {n : Nat} {w : Int} (h : NdAt G a s) (k : D2 a s n w) (hw : 0 ≤ w ∧ w ≤ 1000000) (hB : 2 < a.B) (hP : 0 < a.P) :
    ∃ G' s', nand_Chip_Erase (some (a.c, 0)) 2 G = some ((54, ()), G') ∧ NdAt G' a s' ∧ D2 a s' n (w + 1) ∧ Keep a.fp G G' := by
  have h1 := k.dq
  have h2 := k.worn
  obtain ⟨G', g1, g2, g3⟩ := nand_erase h (by omega) (by rw [k.cuts]; intro x hx; cases hx) (b := 2) k.off hB hP (by omega)
  have hc := cutNow_nil k.cuts
  rw [erase_bad hc (.inl k.dd)] at g1 g2
  refine ⟨G', _, g1, g2, ?_, g3⟩
  rw [acted_plain hc]
  exact ⟨k.cuts, k.off, by show upd s.dead 2 true 2 = true; simp [upd], by show 0 ≤ s.did + 1 ∧ s.did + 1 ≤ w + 1; omega, by show 0 ≤ upd s.worn 2 (s.worn 2 + 1) 2 ∧ upd s.worn 2 (s.worn 2 + 1) 2 ≤ w + 1; simp [upd]; omega, k.has⟩

theorem rows4_cell {H : Heap} {s : Sl} {rows : List (Tup [.int .i64, .int .i64, .int .i64, .int .u8])} (h : Row H 4 s (rowsOf [.int .i64, .int .i64, .int .i64, .int .u8] rows)) (lw : ∀ x ∈ rows, ∀ c ∈ Tup.mk [.int .i64, .int .i64, .int .i64, .int .u8] x, wfC c) {i : Nat} (hi : i < rows.length) :
    ∃ (b o : Nat) (k f : Int), Sl.at 4 s (i : Int) = some (b, o) ∧ rdI .i64 H b o = some k ∧ rdI .u8 H b (o + 3) = some f ∧ 0 ≤ f ∧ f ≤ 255 := by
  obtain ⟨b, o, _, h1, _, cs, bk, h2, h3, h4⟩ := h.at (cts := [.int .i64, .int .i64, .int .i64, .int .u8]) hi (by decide)
  have hg : ∀ j, j < 4 → cs[o + j]? = (Tup.mk [.int .i64, .int .i64, .int .i64, .int .u8] rows[i])[j]? := by
    intro j hj
    rw [← h4, List.getElem?_take, List.getElem?_drop]
    exact (if_pos hj).symm
  have hwf := lw rows[i] (List.getElem_mem hi) (.int .u8 rows[i].2.2.2.1) (by simp [Tup.mk, CT.mk])
  have hb : ∀ f : Int, wfC (.int .u8 f) → 0 ≤ f ∧ f ≤ 255 := fun f hf => hf
  have hf := hb _ hwf
  exact ⟨b, o, rows[i].1, rows[i].2.2.2.1, h1, rdI_of h2 (by have := hg 0 (by decide); rw [Nat.add_zero] at this; rw [this]; rfl), rdI_of h2 (by rw [hg 3 (by decide)]; rfl), hf.1, hf.2⟩

theorem NandDead_true (x0 : Geo) (x1 : Int) (x2 : Sl) {H : Heap} (_ : ∀ c ∈ Tup.mk [.int .i64, .int .i64, .int .i64] x0, wfC c) (_ : wfC (.int .i64 x1)) (hx2 : Came [.int .i64, .int .i64, .int .i64, .int .u8] [] x2 H) : ∃ H', law05_NandDead x0 x1 x2 H = some ((true, ()), H') := by
  obtain ⟨rows, lr, ll, lw, lb⟩ := came_rows hx2
  have lr : Row H 4 x2 (rowsOf [.int .i64, .int .i64, .int .i64, .int .u8] rows) := lr
  obtain ⟨B, P, S, hsh, hB0, hB1, hP0, hP1, hS0, hS1, hok⟩ := shape_nat x0
  have m1 := and_ones (k := .i64) (x := x1) (m := 1) 1 (by decide) (by decide)
  have e1 : IntKind.wrap .i64 (1 + bitsI .and .i64 x1 1) = 1 + bitsI .and .i64 x1 1 := wrap_i64 (by omega) (by omega)
  obtain ⟨n, hn, hn0, hn1⟩ : ∃ n : Nat, 1 + bitsI .and .i64 x1 1 = (n : Int) ∧ 1 ≤ n ∧ n ≤ 2 := ⟨(1 + bitsI .and .i64 x1 1).toNat, (Int.toNat_of_nonneg (by omega)).symm, by omega, by omega⟩
  have e2 : IntKind.wrap .i64 ((n : Int) + 1) = (n : Int) + 1 := wrap_i64 (by omega) (by omega)
  have e2n : IntKind.wrap .i64 (n : Int) = (n : Int) := wrap_i64 (by omega) (by omega)
  unfold law05_NandDead
  let gB : Blk := .cells [.int .i64 x0.1, .int .i64 x0.2.1, .int .i64 x0.2.2.1] .exact
  let hB : Blk := .cells [.int .i64 (B : Int), .int .i64 (P : Int), .int .i64 (S : Int)] .exact
  let H1 : Heap := H ++ [gB]
  let H5 : Heap := H1 ++ [hB]
  let H7 : Heap := H5 ++ [.cells [.int .i64 ((n : Int) + 1)] .exact]
  have r1 := rd_geo (H := H1) (k := H.length) (g := x0) (bk := .exact) app_last
  have q1 : H ++ [Blk.cells [.int .i64 x0.1, .int .i64 x0.2.1, .int .i64 x0.2.2.1] .exact] = H1 := rfl
  have ge : law05_Geometry (x0.1, x0.2.1, x0.2.2.1, ()) = some (((B : Int), (P : Int), (S : Int), ()), ()) := by rw [← hsh]; exact geometry_eq x0
  have w1 : wr (H1 ++ [Blk.cells [.int .i64 0, .int .i64 0, .int .i64 0] .exact]) H1.length 0 [.int .i64 (B : Int), .int .i64 (P : Int), .int .i64 (S : Int)] = some H5 := by rw [wr_last (by decide) (by simp)]; rfl
  have r2 := rd_geo (H := H5) (k := H1.length) (g := ((B : Int), (P : Int), (S : Int), ())) (bk := .exact) app_last
  have q7 : H5 ++ [Blk.cells [.int .i64 ((n : Int) + 1)] .exact] = H7 := rfl
  obtain ⟨R, a, n1, n2, n3, nB, nP, nS, n4⟩ := new_yes (B := B) (P := P) (S := S) (f := (⟨none, 0, 0⟩, ⟨some (H5.length, 0), 1, 1⟩, ⟨none, 0, 0⟩, ())) (cuts := []) (fails := [(n : Int) + 1]) (bad := []) H7 hok (Row.ni _ 3 0) (row_int _) (Row.ni _ 1 0) (by decide) (by simp) (by decide)
  have hl1 : H1.length = H.length + 1 := by simp [H1]
  have hl5 : H5.length = H.length + 2 := by simp [H5, H1]
  have hl7 : H7.length = H.length + 3 := by simp [H7, H5, H1]
  have hg7 : H7[H1.length]? = some hB := by rw [app_lt (by omega)]; exact app_last
  have hgR : R[H1.length]? = some hB := n3.get hg7 id
  have hrow : Row R 4 x2 (rowsOf [.int .i64, .int .i64, .int .i64, .int .u8] rows) := ((lr.push gB |>.push hB).push _).keep n3 fun _ _ _ => id
  have hfp : ∀ k, a.fp k → H7.length ≤ k := fun k hk => n4 k (.inl hk)
  have hgG : ∀ {G' : Heap}, Keep a.fp R G' → G'[H1.length]? = some hB := fun hk => hk.get hgR fun hf => by have := hfp _ hf; omega
  have rS : ∀ {G' : Heap}, Keep a.fp R G' → rdI .i64 G' H1.length 2 = some (S : Int) := fun hk => rdI_of (hgG hk) rfl
  have t9 : law05_text 32 9 = some (txt 32 9, ()) := text_eq 32 9 (by decide)
  have hBa : 2 < a.B := by rw [nB]; omega
  have tq : ∀ q : Nat, q < 2 → law05_text (S : Int) (IntKind.wrap .u8 (IntKind.wrap .i64 ((q : Int) + 1))) = some (txt S (UInt8.ofNat (q + 1)), ()) := by
    intro q hq
    have : IntKind.wrap .u8 (IntKind.wrap .i64 ((q : Int) + 1)) = (((UInt8.ofNat (q + 1)).toNat : Nat) : Int) := by
      have h1 : (UInt8.ofNat (q + 1)).toNat = q + 1 := by simp; omega
      rw [wrap_i64 (by omega) (by omega), wrap_u8, h1]; omega
    rw [this]; exact text_eq S _ (by omega)
  have tq' : ∀ q : Nat, q < 2 → law05_text (S : Int) (IntKind.wrap .u8 ((q + 1 : Nat) : Int)) = some (txt S (UInt8.ofNat (q + 1)), ()) := by
    intro q hq
    have := tq q hq
    rwa [wrap_succ (by omega)] at this
  -- the first pages
  obtain ⟨y, G, l1, rfl, s1, l2, l3, l4⟩ := loopW_run (step := law05_NandDead.s1 x1 H1 ((some (a.c, 0), 0, ()), R)) (fun t G => ∃ i : Nat, i ≤ n ∧ t.1 = (i : Int) ∧ ∃ s, NdAt G a s ∧ D1 a s n i ∧ Keep a.fp R G)
    (fun y G => y = .inl () ∧ ∃ s, NdAt G a s ∧ D1 a s n n ∧ Keep a.fp R G) (fun t _ => n - t.1.toNat)
    (by
      rintro ⟨j, u⟩ G ⟨i, hi, hj, s, hs, k, hK⟩
      have hj : j = (i : Int) := hj
      subst hj
      unfold law05_NandDead.s1
      rw [e1, hn]
      by_cases hlt : i < n
      · have hc := cutNow_nil k.cuts
        have hf : s.failNow = false := by rw [fail1 k.fails, k.dq]; exact decide_eq_false (by omega)
        obtain ⟨G', g1, g2, g3⟩ := nand_program hs (by rw [k.dq]; omega) (by rw [k.cuts]; intro x hx; cases hx) (b := 2) (p := i) k.off hBa (by rw [nP]; omega) (d := txt S (UInt8.ofNat (i + 1))) (sp := txt 32 9) (by rw [nS]; simp [txt]) rfl (used_false fun q h1 h2 => k.free q h1 h2)
        rw [program_ok hc k.dd hf] at g1 g2
        have hne := txt_ne (a := a) (d := txt S (UInt8.ofNat (i + 1))) (c := 9) (by decide)
        have g1' : nand_Chip_Program (some (a.c, 0)) 2 (i : Int) (txt S (UInt8.ofNat (i + 1))) (txt 32 9) G = some ((0, ()), G') := g1
        simp only [decide_eq_true (show (i : Int) < (n : Int) by omega), cond_t, rS hK, bind_some, tq' i (by omega), t9, g1', decide_true, Bool.not_true, cond_f, Round, wrap_succ (show i < 9223372036854775807 by omega)]
        refine ⟨⟨i + 1, hlt, rfl, _, g2, ?_, hK.trans g3⟩, by simp; omega⟩
        rw [acted_plain hc]
        refine ⟨k.cuts, k.fails, k.off, k.dd, by show s.did + 1 = _; rw [k.dq]; omega, k.worn, fun q h1 h2 => ?_, fun q h1 => ?_⟩
        · rw [lay_get hne, if_neg (by omega)]; exact k.free q (by omega) h2
        · rw [lay_get hne]
          by_cases hq : q = i
          · rw [if_pos ⟨rfl, hq⟩, hq, nS]
          · rw [if_neg (fun h => hq h.2)]; exact k.has q (by omega)
      · have : i = n := by omega
        subst this
        simp only [decide_eq_false (show ¬ (i : Int) < (i : Int) by omega), cond_f, Round]
        exact ⟨trivial, s, hs, k, hK⟩) (0, ()) R ⟨0, Nat.zero_le _, rfl, _, n2, ⟨rfl, rfl, rfl, rfl, rfl, rfl, fun _ _ _ => rfl, fun q hq => absurd hq (Nat.not_lt_zero _)⟩, Keep.refl _ _⟩
  -- the page that fails
  have hc := cutNow_nil l3.cuts
  have hf : s1.failNow = true := by rw [fail1 l3.fails, l3.dq]; exact decide_eq_true rfl
  obtain ⟨G2, g1, g2, g3⟩ := nand_program l2 (by rw [l3.dq]; omega) (by rw [l3.cuts]; intro x hx; cases hx) (b := 2) (p := n) l3.off hBa (by rw [nP]; omega) (d := txt S 77) (sp := txt 32 9) (by rw [nS]; simp [txt]) rfl (used_false fun q h1 h2 => l3.free q h1 h2)
  rw [program_bad hc (.inr hf)] at g1 g2
  have g1' : nand_Chip_Program (some (a.c, 0)) 2 (n : Int) (txt S 77) (txt 32 9) G = some ((53, ()), G2) := g1
  have t77 : law05_text (S : Int) 77 = some (txt S 77, ()) := text_eq S 77 (by omega)
  have k2 : D2 a ({ s1.acted with dead := upd s1.dead 2 true }.lay a 2 n (List.replicate (txt S 77 ++ txt 32 9).length 0)) n ((n : Int) + 1) := by
    have hz := zeros_ne (a := a) (n := (txt S 77 ++ txt 32 9).length) (by simp [txt])
    rw [acted_plain hc]
    have h1 := l3.dq
    have h2 := l3.worn
    refine ⟨l3.cuts, l3.off, by show upd s1.dead 2 true 2 = true; simp [upd], by show 0 ≤ s1.did + 1 ∧ s1.did + 1 ≤ _; omega, by show 0 ≤ s1.worn 2 ∧ s1.worn 2 ≤ _; omega, fun q hq => ?_⟩
    rw [lay_get hz, if_neg (by omega)]
    exact l3.has q hq
  generalize ({ s1.acted with dead := upd s1.dead 2 true }.lay a 2 n (List.replicate (txt S 77 ++ txt 32 9).length 0)) = s2 at g2 k2
  have hK2 := l4.trans g3
  -- whatever comes then
  obtain ⟨y, G3, u1, rfl, s3, u2, u3, u4⟩ := loopW_run (step := law05_NandDead.s2 x1 x2 H1 ((some (a.c, 0), 0, ()), R)) (fun t G => ∃ i : Nat, i ≤ 20 ∧ t.1 = (i : Int) ∧ ∃ s, NdAt G a s ∧ D2 a s n ((n : Int) + 1 + i) ∧ Keep a.fp R G)
    (fun y G => y = .inl () ∧ ∃ s, NdAt G a s ∧ D2 a s n 1000 ∧ Keep a.fp R G) (fun t _ => 20 - t.1.toNat)
    (by
      rintro ⟨j, u⟩ G ⟨i, hi, hj, s, hs, k, hK⟩
      have hj : j = (i : Int) := hj
      subst hj
      have fin : D2 a s n 1000 := ⟨k.cuts, k.off, k.dd, by have := k.dq; omega, by have := k.worn; omega, k.has⟩
      have ek : (n : Int) + 1 + ((i + 1 : Nat) : Int) = (n : Int) + 1 + (i : Int) + 1 := by omega
      unfold law05_NandDead.s2
      by_cases hlen : i < rows.length
      · have hlenI : decide ((i : Int) < (x2.len : Int)) = true := decide_eq_true (by omega)
        by_cases h20 : i < 20
        · have h20I : decide ((i : Int) < 20) = true := decide_eq_true (by omega)
          have hrow' : Row G 4 x2 (rowsOf [.int .i64, .int .i64, .int .i64, .int .u8] rows) := hrow.keep hK fun b o hp hf => by
            have := hfp _ hf
            have := lr.lt hp
            omega
          obtain ⟨b, o, kd, fl, x1a, x1b, x1c, fl0, fl1⟩ := rows4_cell hrow' lw hlen
          simp only [hlenI, cond_t, h20I, x1a, bind_some, x1b]
          by_cases hk : bitsI .and .i64 kd 1 = 0
          · obtain ⟨G', s', v1, v2, v3, v4⟩ := dead_erase hs k (by omega) hBa (by rw [nP]; omega)
            simp only [decide_eq_true hk, cond_t, v1, bind_some, decide_true, Bool.not_true, cond_f, Round, wrap_succ (show i < 9223372036854775807 by omega)]
            exact ⟨⟨i + 1, by omega, rfl, s', v2, by rw [ek]; exact v3, hK.trans v4⟩, by simp; omega⟩
          · obtain ⟨c, hc⟩ : ∃ c : UInt8, fl = (c.toNat : Int) := by
              refine ⟨UInt8.ofNat fl.toNat, ?_⟩
              have : (UInt8.ofNat fl.toNat).toNat = fl.toNat := by simp; omega
              rw [this]; omega
            have tc : law05_text (S : Int) fl = some (txt S c, ()) := by rw [hc]; exact text_eq S c (by omega)
            obtain ⟨G', e, s', v1, v2, v3, v4, v5⟩ := dead_write hs k (by omega) hBa (by rw [nP]; omega) (d := txt S c) (by rw [nS]; simp [txt])
            have en : IntKind.wrap .i64 ((IntKind.wrap .i64 (1 + bitsI .and .i64 x1 1)) + 1) = ((n + 1 : Nat) : Int) := by rw [e1, hn, e2]; omega
            simp only [decide_eq_false hk, cond_f, rS hK, bind_some, x1c, tc, t9, en, v1, decide_eq_false v2, Round, wrap_succ (show i < 9223372036854775807 by omega)]
            exact ⟨⟨i + 1, by omega, rfl, s', v3, by rw [ek]; exact v4, hK.trans v5⟩, by simp; omega⟩
        · have h20I : decide ((i : Int) < 20) = false := decide_eq_false (by omega)
          simp only [hlenI, cond_t, h20I, cond_f, Round]
          exact ⟨trivial, s, hs, fin, hK⟩
      · have hlenI : decide ((i : Int) < (x2.len : Int)) = false := decide_eq_false (by omega)
        simp only [hlenI, cond_f, Round]
        exact ⟨trivial, s, hs, fin, hK⟩) (0, ()) G2 ⟨0, by omega, rfl, s2, g2, by simpa using k2, hK2⟩
  -- the pages are read
  obtain ⟨y, G4, z1, rfl, z2, z3⟩ := loopW_run (step := law05_NandDead.s3 x1 H1 ((some (a.c, 0), 0, ()), R)) (fun t G => ∃ i : Nat, i ≤ n ∧ t.1 = (i : Int) ∧ NdAt G a s3 ∧ Keep a.fp R G)
    (fun y G => y = .inl () ∧ NdAt G a s3 ∧ Keep a.fp R G) (fun t _ => n - t.1.toNat)
    (by
      rintro ⟨j, u⟩ G ⟨i, hi, hj, hs, hK⟩
      have hj : j = (i : Int) := hj
      subst hj
      unfold law05_NandDead.s3
      rw [e1, hn]
      by_cases hlt : i < n
      · have hpg := u3.has i hlt
        obtain ⟨G', v1, v2, v3⟩ := nand_read hs (b := 2) (p := i) u3.off hBa (by rw [nP]; omega) (.inr (by rw [hpg]; simp [txt]))
        have hr : s3.read a 2 i = txt S (UInt8.ofNat (i + 1)) ++ txt 32 9 := by unfold Nd.read; rw [hpg, if_neg txt_ne_nil, nS]
        rw [hr, nS, List.take_left' (by simp [txt]), List.drop_left' (by simp [txt])] at v1
        have v1' : nand_Chip_Read (some (a.c, 0)) 2 (i : Int) G = some ((txt S (UInt8.ofNat (i + 1)), txt 32 9, 0, ()), G') := v1
        have hK' := hK.trans (v3.mono fun _ => False.elim)
        simp only [decide_eq_true (show (i : Int) < (n : Int) by omega), cond_t, v1', bind_some, decide_true, Bool.not_true, cond_f, rS hK', tq' i (by omega), Round, wrap_succ (show i < 9223372036854775807 by omega)]
        exact ⟨⟨i + 1, hlt, rfl, v2, hK'⟩, by simp; omega⟩
      · have : i = n := by omega
        subst this
        simp only [decide_eq_false (show ¬ (i : Int) < (i : Int) by omega), cond_f, Round]
        exact ⟨trivial, hs, hK⟩) (0, ()) G3 ⟨0, Nat.zero_le _, rfl, u2, u4⟩
  obtain ⟨t, G5, d1, d2, d3, d4⟩ := nand_dead z2
  have dl := d2.len
  rw [arrC_length (fun _ => rfl) (es := 1)] at dl
  obtain ⟨b, o, hp, x1a, cs, bk, x2a, x3a, x4a⟩ := slRow_cell d2.row (i := 2) (by omega) d2.nil
  have x5 := x4a 0 (by decide)
  rw [arrC_get (fun _ => rfl) (es := 1) (by decide) hBa] at x5
  have x6 : rdB G5 b (o + 2 * 1) = some true := rdB_of x2a (by rw [Nat.add_zero] at x5; rw [x5]; simp [u3.dd])
  have x7 : Sl.at 1 t 2 = some (b, o + 2 * 1) := x1a
  have l1' : loopW (law05_NandDead.s1 x1 H1 ((some (a.c, 0), 0, ()), R)) (0, ()) R = some (.inl (), G) := l1
  have u1' : loopW (law05_NandDead.s2 x1 x2 H1 ((some (a.c, 0), 0, ()), R)) (0, ()) G2 = some (.inl (), G3) := u1
  have z1' : loopW (law05_NandDead.s3 x1 H1 ((some (a.c, 0), 0, ()), R)) (0, ()) G3 = some (.inl (), G4) := z1
  refine ⟨G5, ?_⟩
  simp only [q1, r1, bind_some, ge, w1, r2, e1, hn, e2, e2n, q7, n1, awake05, Bool.not_true, cond_f, decide_true, l1', sum0, rS l4, t77, t9, g1', u1', z1', d1, x7, x6]
end Ev
