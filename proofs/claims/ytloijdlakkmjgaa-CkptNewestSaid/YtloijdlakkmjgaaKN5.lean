/- SNandM SCalm SGeo SLife SFine SNandT SCrc SPage -/
import Derived.Test.YtloijdlakkmjgaaKN2
import Derived.Test.YtloijdlakkmjgaaGLaw05
import Derived.Test.YtloijdlakkmjgaaGLife
import Derived.Test.YtloijdlakkmjgaaGCrc
import Derived.Test.YtloijdlakkmjgaaKN1
import Derived.Test.YtloijdlakkmjgaaKN4
import Derived.Test.YtloijdlakkmjgaaGPage
/- A new chip as a whole; Arm. -/
namespace Ev
open Go (IntKind)

theorem new_yes {B P S : Nat} {f : Sl × Sl × Sl × Unit} {cuts : List Cut} {fails bad : List Int} (H : Heap) (hg : geoOK ((B : Int), (P : Int), (S : Int), ()) = true) (hcu : Row H 3 f.1 (cutC cuts)) (hfa : Row H 1 f.2.1 (intC fails)) (hba : Row H 1 f.2.2.1 (intC bad))
    (hl1 : cuts.length ≤ 1099511627776) (hl2 : fails.length ≤ 1099511627776) (hl3 : bad.length ≤ 1099511627776) :
    ∃ H' a, nand_New ((B : Int), (P : Int), (S : Int), ()) f H = some ((some (a.c, 0), 0, ()), H') ∧ NdAt H' a (Nd.new cuts fails bad) ∧ Keep (fun _ => False) H H' ∧ a.B = B ∧ a.P = P ∧ a.S = S ∧ ∀ k, a.own k → H.length ≤ k := by
  have hg' := of_decide_eq_true hg
  simp only at hg'
  unfold nand_New
  -- locals
  let g : Geo := ((B : Int), (P : Int), (S : Int), ())
  let gB : Blk := .cells [.int .i64 (B : Int), .int .i64 (P : Int), .int .i64 (S : Int)] .exact
  let fB : Blk := .cells [.sl 3 f.1, .sl 1 f.2.1, .sl 1 f.2.2.1] .exact
  let H1 : Heap := H ++ [gB]
  let H2 : Heap := H1 ++ [fB]
  let H3 : Heap := H2 ++ [.cells (arrC B fun _ => blk0) .exact]
  have e1 : H1.length = H.length + 1 := by simp [H1]
  have e2 : H2.length = H.length + 2 := by simp [H2, H1]
  have e3 : H3.length = H.length + 3 := by simp [H3, H2, H1]
  have k3 : Keep (fun _ => False) H H3 := ((Keep.push _ _ _).trans (Keep.push _ _ _)).trans (Keep.push _ _ _)
  have g2 : H2[H.length]? = some gB := by rw [app_lt (by omega)]; exact app_last
  have g3 : H3[H.length]? = some gB := by rw [app_lt (by omega)]; exact g2
  have f3 : H3[H1.length]? = some fB := by rw [app_lt (by omega)]; exact app_last
  have b3 : H3[H2.length]? = some (.cells (arrC B fun _ => blk0) .exact) := app_last
  have hmk : mkS H2 40 [.sl 1 Sl.nil, .int .i64 0, .bool false, .bool false] (B : Int) (B : Int) = some (⟨some (H2.length, 0), B, B⟩, H3) := mkS_of (by omega) (by omega)
  have nof : ∀ k, (fun _ : Nat => False) k → False := fun _ => id
  have hcu3 := hcu.keep k3 fun _ _ _ => id
  have hcl : f.1.len = cuts.length := by have := hcu.len; rw [cutC_length] at this; omega
  have hfl : f.2.1.len = fails.length := hfa.int_len
  obtain ⟨t1, H4, c1, c2, c3, c4, c5⟩ := clone_cut hcu3 (by omega)
  have k4 := k3.trans c3
  have hfa4 := hfa.keep k4 fun _ _ _ => id
  obtain ⟨t2, H5, d1, d2, d3, d4, d5⟩ := clone_int hfa4 (by omega)
  have k5 := k4.trans d3
  have g4 := c3.get g3 id
  have f4 := c3.get f3 id
  have b4 := c3.get b3 id
  have g5 := d3.get g4 id
  have f5 := d3.get f4 id
  have b5 := d3.get b4 id
  have h43 := c3.len
  have h54 := d3.len
  let cB : Blk := .cells [.int .i64 (B : Int), .int .i64 (P : Int), .int .i64 (S : Int), .sl 4 ⟨some (H2.length, 0), B, B⟩, .sl 3 t1, .sl 1 t2, .int .i64 0, .bool false] .exact
  let H6 : Heap := H5 ++ [cB]
  have e6 : H6.length = H5.length + 1 := by simp [H6]
  have g6 : H6[H.length]? = some gB := by rw [app_lt (get_lt g5)]; exact g5
  have f6 : H6[H1.length]? = some fB := by rw [app_lt (get_lt f5)]; exact f5
  have b6 : H6[H2.length]? = some (.cells (arrC B fun _ => blk0) .exact) := by rw [app_lt (get_lt b5)]; exact b5
  have cc6 : H6[H5.length]? = some cB := app_last
  have k6 := k5.trans (Keep.push _ _ cB)
  have hba6 := hba.keep k6 fun _ _ _ => id
  obtain ⟨G, l1, l2, l3, l4⟩ := new_loop (H := H) (H1 := H1) (r15 := ((t2, ()), H5)) (G0 := H6) (B := B) (P := P) (S := S) (bb := H2.length) (fb := f.2.2.1) (bad := bad) (by omega) (by omega) cc6 rfl ⟨_, _, g6, rfl⟩ ⟨_, _, f6, rfl⟩ hba6 (by omega) b6
    (by show H5.length ≠ H2.length; omega) (by omega) (by omega) (fun k o hp e => by have := hba.lt hp; omega)
  have r2 := rd_geo (H := H2) (g := g) (bk := .exact) g2
  have r4 := rd_geo (H := H4) (g := g) (bk := .exact) g4
  have r6 := rd_geo (H := H6) (g := g) (bk := .exact) g6
  have i2 : rdI .i64 H2 H.length 0 = some (B : Int) := rdI_of g2 rfl
  have i4 : rdI .i64 H4 H.length 0 = some (B : Int) := rdI_of g4 rfl
  have i6 : rdI .i64 H6 H.length 0 = some (B : Int) := rdI_of g6 rfl
  have s3 : rdSl 3 H3 H1.length 0 = some f.1 := rdSl_of f3 rfl
  have s3' : rdSl 1 H3 H1.length 1 = some f.2.1 := rdSl_of f3 rfl
  have s4 : rdSl 1 H4 H1.length 1 = some f.2.1 := rdSl_of f4 rfl
  have s6 : rdSl 4 H6 H5.length 3 = some ⟨some (H2.length, 0), B, B⟩ := rdSl_of cc6 rfl
  have chk : nand_Check (g.1, g.2.1, g.2.2.1, ()) = some (true, ()) := by rw [show nand_Check (g.1, g.2.1, g.2.2.1, ()) = some (geoOK g, ()) from nand_Check_eq g]; rw [hg]
  have st4 : H4[H2.length]? = some (.cells (rep (Int.toNat (B : Int)) [.sl 1 Sl.nil, .int .i64 0, .bool false, .bool false]) .exact) := by rw [b4, Int.toNat_natCast, rep_arr]; rfl
  have st6 : H6[H2.length]? = some (.cells (rep (Int.toNat (B : Int)) [.sl 1 Sl.nil, .int .i64 0, .bool false, .bool false]) .exact) := by rw [b6, Int.toNat_natCast, rep_arr]; rfl
  refine ⟨G, ⟨H5.length, H2.length, fun i => H6.length + i, B, P, S, t1, t2⟩, ?_, ?_, ?_, rfl, rfl, rfl, ?_⟩
  · have q1 : (H ++ [Blk.cells [.int .i64 (B : Int), .int .i64 (P : Int), .int .i64 (S : Int)] .exact]) = H1 := rfl
    simp only [q1]
    have q2 : (H1 ++ [Blk.cells [.sl 3 f.1, .sl 1 f.2.1, .sl 1 f.2.2.1] .exact]) = H2 := rfl
    simp only [q2, r2, bind_some, chk, Bool.not_true, cond_f, i2, hmk, s3, s3', c1, r4, if_true, i4, st4, s4, d1]
    have q3 : (H5 ++ [Blk.cells [.int .i64 g.1, .int .i64 g.2.1, .int .i64 g.2.2.1, .sl 4 ⟨some (H2.length, 0), B, B⟩, .sl 3 t1, .sl 1 t2, .int .i64 0, .bool false] .exact]) = H6 := rfl
    simp only [q3, r6, bind_some, if_true, i6, st6, s6, l1]
  · have hk := l4
    refine { cell := ?_, blks := ?_, pgs := fun i hi => ?_, cuts := ?_, fails := ?_, cb := ?_, cp := fun i hi => ?_, bp := fun i hi => ?_, pp := fun i j _ _ e => ?_, csn := fun k o hp hf => ?_, fsn := fun k o hp hf => ?_, sz := ⟨?_, ?_, ?_⟩, ln := ⟨hl1, hl2⟩ }
    · exact hk.get cc6 (by show H5.length ≠ H2.length; omega)
    · exact l2
    · exact l3 i hi
    · exact ((c2.keep d3 fun _ _ _ => id).push cB).keep hk fun k o hp e => by have := c5 k o hp; omega
    · exact (d2.push cB).keep hk fun k o hp e => by have := d5 k o hp; omega
    · show H5.length ≠ H2.length; omega
    · show H5.length ≠ H6.length + i; omega
    · show H2.length ≠ H6.length + i; omega
    · have e : H6.length + i = H6.length + j := e
      omega
    · have h1 := c5 k o hp
      have h2 := (c2.lt hp)
      rcases hf with e | e | ⟨i, _, e⟩
      · have e : k = H5.length := e
        omega
      · have e : k = H2.length := e
        omega
      · have e : k = H6.length + i := e
        omega
    · have h1 := d5 k o hp
      have h2 := (d2.lt hp)
      rcases hf with e | e | ⟨i, _, e⟩
      · have e : k = H5.length := e
        omega
      · have e : k = H2.length := e
        omega
      · have e : k = H6.length + i := e
        omega
    · show B ≤ 4294967296; omega
    · show P ≤ 4294967296; omega
    · show S ≤ 4294967296; omega
  · refine ⟨Nat.le_trans k6.len l4.len, fun k hk _ => ?_⟩
    rw [l4.same k (Nat.lt_of_lt_of_le hk k6.len) (by show ¬ k = H2.length; omega)]
    exact k6.same k hk id
  · intro k hk
    rcases hk with (e | e | ⟨i, _, e⟩) | ⟨o, ho⟩ | ⟨o, ho⟩
    · have e : k = H5.length := e
      omega
    · have e : k = H2.length := e
      omega
    · have e : k = H6.length + i := e
      omega
    · have := c5 k o ho; omega
    · have := d5 k o ho; omega

end Ev

/- A chip to which nothing happens: writing and erasing. Shapes of chips. -/
namespace Ev
open Go (IntKind)

theorem cutNow_nil {s : Nd} (h : s.cuts = []) : s.cutNow = none := by unfold Nd.cutNow; rw [h]; rfl
theorem failNow_nil {s : Nd} (h : s.fails = []) : s.failNow = false := by unfold Nd.failNow; rw [h]; exact decide_eq_false List.not_mem_nil
theorem used_false {a : NdA} {s : Nd} {b p : Nat} (h : ∀ q, p ≤ q → q < a.P → s.pages b q = []) : s.used a b p = false := by
  unfold Nd.used
  rw [List.any_eq_false]
  intro q hq
  by_cases h1 : p ≤ q
  · simp [h q h1 (List.mem_range.1 hq)]
  · simp [h1]
theorem used_true {a : NdA} {s : Nd} {b p q : Nat} (h1 : p ≤ q) (h2 : q < a.P) (h3 : s.pages b q ≠ []) : s.used a b p = true := by
  unfold Nd.used
  rw [List.any_eq_true]
  exact ⟨q, List.mem_range.2 h2, by simp [h1, h3]⟩
theorem program_ok {a : NdA} {s : Nd} {b p : Nat} {t : Bytes} (h1 : s.cutNow = none) (h2 : s.dead b = false) (h3 : s.failNow = false) : s.program a b p t = (0, s.acted.lay a b p t) := by
  unfold Nd.program
  rw [h1]
  simp only [h2, h3]
  rw [if_neg (by simp)]
theorem acted_plain {s : Nd} (h : s.cutNow = none) : s.acted = { s with did := s.did + 1 } := by unfold Nd.acted; rw [h]; simp
theorem erase_ok {a : NdA} {s : Nd} {b : Nat} (h1 : s.cutNow = none) (h2 : s.dead b = false) (h3 : s.failNow = false) : s.erase a b = (0, { s.acted with worn := upd s.worn b (s.worn b + 1) }.clear b a.P) := by
  unfold Nd.erase
  rw [h1]
  simp only [h2, h3]
  rw [if_neg (by simp)]
theorem geo_nat {g : Geo} (h : geoOK g = true) : ∃ B P S : Nat, g = ((B : Int), (P : Int), (S : Int), ()) := by
  obtain ⟨x, y, z, u⟩ := g
  have h := of_decide_eq_true h
  simp only at h
  exact ⟨x.toNat, y.toNat, z.toNat, by rw [Int.toNat_of_nonneg (by omega), Int.toNat_of_nonneg (by omega), Int.toNat_of_nonneg (by omega)]⟩

def shape (g : Geo) : Geo := (8 + bitsI .and .i64 g.1 7, 4 + bitsI .and .i64 g.2.1 7, 64 + bitsI .and .i64 g.2.2.1 63, ())
theorem shape_nat (g : Geo) : ∃ B P S : Nat, shape g = ((B : Int), (P : Int), (S : Int), ()) ∧ 8 ≤ B ∧ B ≤ 15 ∧ 4 ≤ P ∧ P ≤ 11 ∧ 64 ≤ S ∧ S ≤ 127 ∧ geoOK ((B : Int), (P : Int), (S : Int), ()) = true := by
  obtain ⟨x, y, z, u⟩ := g
  have b0 := and_ones (k := .i64) (x := x) (m := 7) 3 (by decide) (by decide)
  have b1 := and_ones (k := .i64) (x := y) (m := 7) 3 (by decide) (by decide)
  have b2 := and_ones (k := .i64) (x := z) (m := 63) 6 (by decide) (by decide)
  refine ⟨(8 + bitsI .and .i64 x 7).toNat, (4 + bitsI .and .i64 y 7).toNat, (64 + bitsI .and .i64 z 63).toNat, ?_, by omega, by omega, by omega, by omega, by omega, by omega, decide_eq_true ?_⟩
  · simp only [shape]
    rw [Int.toNat_of_nonneg (by omega), Int.toNat_of_nonneg (by omega), Int.toNat_of_nonneg (by omega)]
  · simp only
    omega
end Ev

/- tinderboxlaw05.Geometry: a shape that may be. -/
namespace Ev
open Go (IntKind)

theorem geometry_eq (g : Geo) (H : Heap) : ∃ H', law05_Geometry g H = some ((shape g, ()), H') ∧ Keep (fun _ => False) H H' := by
  obtain ⟨x, y, z, u⟩ := g
  have b0 := and_ones (k := .i64) (x := x) (m := 7) 3 (by decide) (by decide)
  have b1 := and_ones (k := .i64) (x := y) (m := 7) 3 (by decide) (by decide)
  have b2 := and_ones (k := .i64) (x := z) (m := 63) 6 (by decide) (by decide)
  unfold law05_Geometry
  let A : Blk := .cells [.int .i64 x, .int .i64 y, .int .i64 z] .exact
  have k1 : (H ++ [A])[H.length]? = some A := app_last
  have k2 : ((H ++ [A]) ++ [Blk.cells [.int .i64 0, .int .i64 0, .int .i64 0] .exact])[H.length]? = some A := by rw [app_lt (get_lt k1)]; exact k1
  have r0 : rdI .i64 ((H ++ [A]) ++ [Blk.cells [.int .i64 0, .int .i64 0, .int .i64 0] .exact]) H.length 0 = some x := rdI_of k2 rfl
  have r1 : rdI .i64 ((H ++ [A]) ++ [Blk.cells [.int .i64 0, .int .i64 0, .int .i64 0] .exact]) H.length 1 = some y := rdI_of k2 rfl
  have r2 : rdI .i64 ((H ++ [A]) ++ [Blk.cells [.int .i64 0, .int .i64 0, .int .i64 0] .exact]) H.length 2 = some z := rdI_of k2 rfl
  have e0 : IntKind.wrap .i64 (8 + bitsI .and .i64 x 7) = 8 + bitsI .and .i64 x 7 := wrap_i64 (by omega) (by omega)
  have e1 : IntKind.wrap .i64 (4 + bitsI .and .i64 y 7) = 4 + bitsI .and .i64 y 7 := wrap_i64 (by omega) (by omega)
  have e2 : IntKind.wrap .i64 (64 + bitsI .and .i64 z 63) = 64 + bitsI .and .i64 z 63 := wrap_i64 (by omega) (by omega)
  have w : ∀ (a b c : Int), wr ((H ++ [A]) ++ [Blk.cells [.int .i64 0, .int .i64 0, .int .i64 0] .exact]) (H ++ [A]).length 0 [.int .i64 a, .int .i64 b, .int .i64 c] = some ((H ++ [A]) ++ [Blk.cells [.int .i64 a, .int .i64 b, .int .i64 c] .exact]) := by
    intro a b c
    rw [wr_last (by decide) (by simp)]; rfl
  have q : H ++ [Blk.cells [.int .i64 x, .int .i64 y, .int .i64 z] .exact] = H ++ [A] := rfl
  refine ⟨(H ++ [A]) ++ [Blk.cells [.int .i64 (8 + bitsI .and .i64 x 7), .int .i64 (4 + bitsI .and .i64 y 7), .int .i64 (64 + bitsI .and .i64 z 63)] .exact], ?_, (Keep.push _ _ _).trans (Keep.push _ _ _)⟩
  simp only [q, r0, r1, r2, bind_some, e0, e1, e2, w]
  rw [rd_geo (g := (8 + bitsI .and .i64 x 7, 4 + bitsI .and .i64 y 7, 64 + bitsI .and .i64 z 63, ())) app_last]
  rfl
end Ev

/- The blocks' life: how it stands in the heap; what each of its functions does. -/
namespace Ev
open Go (IntKind)

structure LfA where
  c : Nat
  lb : Nat
  B : Nat
  P : Nat
structure Lf where
  l : Nat → Int
  op : Int
  nx : Nat
def LfA.fp (e : LfA) (k : Nat) : Prop := k = e.c ∨ k = e.lb
def LfA.cells (e : LfA) (v : Lf) : List C := [.sl 1 ⟨some (e.lb, 0), e.B, e.B⟩, .int .i64 e.P, .int .i64 v.op, .int .i64 v.nx]
def Lf.row (v : Lf) (i : Nat) : List C := [.int .i64 (v.l i)]
structure LfAt (H : Heap) (e : LfA) (v : Lf) : Prop where
  cell : H[e.c]? = some (.cells (e.cells v) .exact)
  list : H[e.lb]? = some (.cells (arrC e.B v.row) .exact)
  ne : e.c ≠ e.lb
  sz : e.B ≤ 1000 ∧ e.P ≤ 1000

section
variable {H : Heap} {e : LfA} {v : Lf}
theorem lrow_len (v : Lf) : ∀ i, (v.row i).length = 1 := fun _ => rfl
theorem LfAt.lt (h : LfAt H e v) {k : Nat} (hk : e.fp k) : k < H.length := by
  rcases hk with rfl | rfl
  · exact get_lt h.cell
  · exact get_lt h.list
theorem LfAt.keep (h : LfAt H e v) {F : Nat → Prop} {H' : Heap} (k : Keep F H H') (hF : ∀ j, e.fp j → ¬ F j) : LfAt H' e v := ⟨k.get h.cell (hF _ (.inl rfl)), k.get h.list (hF _ (.inr rfl)), h.ne, h.sz⟩
theorem LfAt.rl (h : LfAt H e v) : rdSl 1 H e.c 0 = some ⟨some (e.lb, 0), e.B, e.B⟩ := rdSl_of h.cell rfl
theorem LfAt.rP (h : LfAt H e v) : rdI .i64 H e.c 1 = some (e.P : Int) := rdI_of h.cell rfl
theorem LfAt.rop (h : LfAt H e v) : rdI .i64 H e.c 2 = some v.op := rdI_of h.cell rfl
theorem LfAt.rnx (h : LfAt H e v) : rdI .i64 H e.c 3 = some (v.nx : Int) := rdI_of h.cell rfl
theorem LfAt.at' (i : Nat) (hi : i < e.B) : Sl.at 1 ⟨some (e.lb, 0), e.B, e.B⟩ (i : Int) = some (e.lb, i) := by
  rw [at_of (by omega) (by omega), Int.toNat_natCast, Nat.mul_one, Nat.zero_add]
theorem LfAt.ri (h : LfAt H e v) {i : Nat} (hi : i < e.B) : rdI .i64 H e.lb i = some (v.l i) := by
  have := arrC_get (lrow_len v) (j := 0) (by decide) hi
  rw [Nat.mul_one, Nat.add_zero] at this
  exact rdI_of h.list this
theorem LfAt.wop (h : LfAt H e v) (x : Int) : ∃ H', wr H e.c 2 [.int .i64 x] = some H' ∧ LfAt H' e { v with op := x } ∧ Keep e.fp H H' :=
  ⟨_, wr1_of h.cell (by decide) (by simp [LfA.cells]), ⟨by rw [set_get (get_lt h.cell)]; rfl, by rw [set_get' h.ne]; exact h.list, h.ne, h.sz⟩, Keep.set _ _ _ (.inl rfl)⟩
theorem LfAt.wnx (h : LfAt H e v) (x : Nat) : ∃ H', wr H e.c 3 [.int .i64 (x : Int)] = some H' ∧ LfAt H' e { v with nx := x } ∧ Keep e.fp H H' :=
  ⟨_, wr1_of h.cell (by decide) (by simp [LfA.cells]), ⟨by rw [set_get (get_lt h.cell)]; rfl, by rw [set_get' h.ne]; exact h.list, h.ne, h.sz⟩, Keep.set _ _ _ (.inl rfl)⟩
theorem LfAt.wi (h : LfAt H e v) {i : Nat} (hi : i < e.B) (x : Int) : ∃ H', wr H e.lb i [.int .i64 x] = some H' ∧ LfAt H' e { v with l := upd v.l i x } ∧ Keep e.fp H H' := by
  have hs := arrC_set (lrow_len v) (j := 0) (by decide) (.int .i64 x) hi
  rw [Nat.mul_one, Nat.add_zero] at hs
  refine ⟨_, wr1_of h.list (by decide) (by rw [arrC_length (lrow_len v)]; omega), ⟨by rw [set_get' (Ne.symm h.ne)]; exact h.cell, ?_, h.ne, h.sz⟩, Keep.set _ _ _ (.inr rfl)⟩
  rw [set_get (get_lt h.list), hs]
  congr 3
  funext k
  by_cases hk : k = i
  · subst hk; simp [Lf.row, upd]
  · simp [Lf.row, upd, hk]

/-! What its functions tell. -/
def Lf.at (v : Lf) : Int × Int × Bool × Unit := if v.op < 0 then (0, 0, false, ()) else (v.op, (v.nx : Int), true, ())
theorem life_At (h : LfAt H e v) : life_Life_At (some (e.c, 0)) H = some (v.at, H) := by
  unfold life_Life_At Lf.at
  simp only [Option.isNone_some, cond_f, bind_some, Nat.zero_add, h.rop]
  by_cases h0 : v.op < 0
  · simp only [decide_eq_true h0, cond_t, if_pos h0]
  · simp only [decide_eq_false h0, cond_f, bind_some, h.rnx, if_neg h0]
theorem life_in (h : LfAt H e v) (x : Int) : life_Life_in (some (e.c, 0)) x H = some ((decide (0 ≤ x ∧ x < (e.B : Int)), ()), H) := by
  unfold life_Life_in
  simp only [Option.isNone_some, Bool.not_false, cond_t, bind_some, h.rl]
  by_cases h0 : 0 ≤ x
  · rw [decide_eq_true h0, cond_t]
    congr 3
    exact decide_eq_decide.2 ⟨fun h => ⟨h0, h⟩, fun h => h.2⟩
  · rw [decide_eq_false h0, cond_f, decide_eq_false (fun h => h0 h.1)]
theorem life_Is (h : LfAt H e v) {i : Nat} (hi : i < e.B) : life_Life_Is (some (e.c, 0)) (i : Int) H = some ((v.l i, ()), H) := by
  unfold life_Life_Is
  simp only [life_in h, decide_eq_true (show 0 ≤ (i : Int) ∧ (i : Int) < (e.B : Int) by omega), bind_some, Bool.not_true, cond_f, h.rl, LfAt.at' i hi, h.ri hi]
theorem life_Is_no (h : LfAt H e v) {x : Int} (hx : ¬ (0 ≤ x ∧ x < (e.B : Int))) : life_Life_Is (some (e.c, 0)) x H = some ((-1, ()), H) := by
  unfold life_Life_Is
  simp only [life_in h, decide_eq_false hx, bind_some, Bool.not_false, cond_t]
/-- A free block is opened, when none is open. -/
theorem life_Open (h : LfAt H e v) {i : Nat} (hi : i < e.B) (hf : v.l i = 0) (ho : v.op < 0) : ∃ H', life_Life_Open (some (e.c, 0)) (i : Int) H = some ((true, ()), H') ∧ LfAt H' e ⟨upd v.l i 1, (i : Int), 0⟩ ∧ Keep e.fp H H' := by
  obtain ⟨H1, a1, a2, a3⟩ := h.wi hi 1
  obtain ⟨H2, b1, b2, b3⟩ := a2.wop (i : Int)
  obtain ⟨H3, c1, c2, c3⟩ := b2.wnx 0
  refine ⟨H3, ?_, c2, (a3.trans b3).trans c3⟩
  have c1' : wr H2 e.c 3 [.int .i64 0] = some H3 := c1
  unfold life_Life_Open
  simp only [life_in h, decide_eq_true (show 0 ≤ (i : Int) ∧ (i : Int) < (e.B : Int) by omega), bind_some, Bool.not_true, cond_f, h.rl, LfAt.at' i hi, h.ri hi, hf, decide_true, Nat.zero_add, h.rop, decide_eq_false (show ¬ 0 ≤ v.op by omega), a1, b1, c1']
/-- The next page of the open block. -/
def Lf.took (e : LfA) (v : Lf) (i : Nat) : Lf := if v.nx + 1 = e.P then ⟨upd v.l i 2, -1, v.nx + 1⟩ else ⟨v.l, v.op, v.nx + 1⟩
theorem life_Take (h : LfAt H e v) {i : Nat} (hi : i < e.B) (ho : v.op = (i : Int)) (hn : v.nx < 1000) : ∃ H', life_Life_Take (some (e.c, 0)) H = some (((i : Int), (v.nx : Int), true, ()), H') ∧ LfAt H' e (v.took e i) ∧ Keep e.fp H H' := by
  obtain ⟨H1, a1, a2, a3⟩ := h.wnx (v.nx + 1)
  have ew : IntKind.wrap .i64 ((v.nx : Int) + 1) = ((v.nx + 1 : Nat) : Int) := wrap_succ (by omega)
  have hc := a2.rnx
  simp only at hc
  unfold life_Life_Take Lf.took
  simp only [Option.isNone_some, cond_f, bind_some, Nat.zero_add, h.rop, ho, decide_eq_false (show ¬ (i : Int) < 0 by omega), h.rnx, ew, a1, hc, a2.rP]
  by_cases hp : v.nx + 1 = e.P
  · obtain ⟨H2, b1, b2, b3⟩ := a2.wi hi 2
    obtain ⟨H3, c1, c2, c3⟩ := b2.wop (-1)
    refine ⟨H3, ?_, by rw [if_pos hp]; exact c2, (a3.trans b3).trans c3⟩
    simp only [decide_eq_true (show ((v.nx + 1 : Nat) : Int) = (e.P : Int) by omega), cond_t, a2.rl, bind_some, LfAt.at' i hi, b1, c1]
  · refine ⟨H1, ?_, by rw [if_neg hp, ← ho]; exact a2, a3⟩
    simp only [decide_eq_false (show ¬ ((v.nx + 1 : Nat) : Int) = (e.P : Int) by omega), cond_f]
/-- A block is something else. -/
def Lf.set (v : Lf) (i : Nat) (x : Int) : Lf := if v.l i = 3 then v else ⟨upd v.l i x, if v.op = (i : Int) then -1 else v.op, v.nx⟩
theorem life_set (h : LfAt H e v) {i : Nat} (hi : i < e.B) (x : Int) : ∃ H', life_Life_set (some (e.c, 0)) (i : Int) x H = some ((!decide (v.l i = 3), ()), H') ∧ LfAt H' e (v.set i x) ∧ Keep e.fp H H' := by
  unfold life_Life_set Lf.set
  simp only [life_in h, decide_eq_true (show 0 ≤ (i : Int) ∧ (i : Int) < (e.B : Int) by omega), bind_some, Bool.not_true, cond_f, h.rl, LfAt.at' i hi, h.ri hi, Nat.zero_add, h.rop]
  by_cases h3 : v.l i = 3
  · refine ⟨H, ?_, by rw [if_pos h3]; exact h, Keep.refl _ _⟩
    simp only [decide_eq_true h3, cond_t, Bool.not_true]
  · simp only [decide_eq_false h3, cond_f, Bool.not_false, if_neg h3]
    by_cases ho : v.op = (i : Int)
    · obtain ⟨H1, a1, a2, a3⟩ := h.wop (-1)
      obtain ⟨H2, b1, b2, b3⟩ := a2.wi hi x
      refine ⟨H2, ?_, by rw [if_pos ho]; exact b2, a3.trans b3⟩
      simp only [decide_eq_true ho, cond_t, a1, bind_some, a2.rl, LfAt.at' i hi, b1]
    · obtain ⟨H2, b1, b2, b3⟩ := h.wi hi x
      refine ⟨H2, ?_, by rw [if_neg ho]; exact b2, b3⟩
      simp only [decide_eq_false ho, cond_f, bind_some, h.rl, LfAt.at' i hi, b1]
theorem life_Bad (h : LfAt H e v) {i : Nat} (hi : i < e.B) : ∃ H', life_Life_Bad (some (e.c, 0)) (i : Int) H = some ((!decide (v.l i = 3), ()), H') ∧ LfAt H' e (v.set i 3) ∧ Keep e.fp H H' := by
  obtain ⟨H', a1, a2⟩ := life_set h hi 3
  exact ⟨H', by unfold life_Life_Bad; simp only [a1, bind_some], a2⟩
theorem life_Full (h : LfAt H e v) {i : Nat} (hi : i < e.B) : ∃ H', life_Life_Full (some (e.c, 0)) (i : Int) H = some ((!decide (v.l i = 3), ()), H') ∧ LfAt H' e (v.set i 2) ∧ Keep e.fp H H' := by
  obtain ⟨H', a1, a2⟩ := life_set h hi 2
  exact ⟨H', by unfold life_Life_Full; simp only [a1, bind_some], a2⟩
theorem life_Free (h : LfAt H e v) {i : Nat} (hi : i < e.B) : ∃ H', life_Life_Free (some (e.c, 0)) (i : Int) H = some ((!decide (v.l i = 3), ()), H') ∧ LfAt H' e (v.set i 0) ∧ Keep e.fp H H' := by
  obtain ⟨H', a1, a2⟩ := life_set h hi 0
  exact ⟨H', by unfold life_Life_Free; simp only [a1, bind_some], a2⟩
end
def Lf.new : Lf := ⟨fun _ => 0, -1, 0⟩
theorem life_new_eq (H : Heap) {B P : Nat} (hB : 1 ≤ B ∧ B ≤ 32) (hP : 1 ≤ P ∧ P ≤ 16) : ∃ H' e, life_New (B : Int) (P : Int) H = some ((some (e.c, 0), 0, ()), H') ∧ LfAt H' e Lf.new ∧ Keep (fun _ => False) H H' ∧ e.B = B ∧ e.P = P ∧ ∀ k, e.fp k → H.length ≤ k := by
  have hmk := mkS_of (H := H) (bytes := 8) (zero := [.int .i64 0]) (n := B) (by omega) (by omega)
  refine ⟨_, ⟨H.length + 1, H.length, B, P⟩, ?_, ⟨?_, ?_, by simp, by show B ≤ 1000 ∧ P ≤ 1000; omega⟩, (Keep.push _ _ (.cells (arrC B fun _ => [.int .i64 0]) .exact)).trans (Keep.push _ _ (.cells [.sl 1 ⟨some (H.length, 0), B, B⟩, .int .i64 (P : Int), .int .i64 (-1), .int .i64 0] .exact)), rfl, rfl, fun k hk => by rcases hk with rfl | rfl <;> simp⟩
  · unfold life_New
    simp only [decide_eq_false (show ¬ (B : Int) < 1 by omega), decide_eq_false (show ¬ (32 : Int) < (B : Int) by omega), decide_eq_false (show ¬ (P : Int) < 1 by omega), decide_eq_false (show ¬ (16 : Int) < (P : Int) by omega), cond_f, hmk, bind_some, List.length_append, List.length_singleton]
  · have hl : (H ++ [Blk.cells (arrC B fun _ => [C.int .i64 0]) .exact]).length = H.length + 1 := by simp
    show (_ ++ [_])[H.length + 1]? = _
    rw [← hl, app_last]; rfl
  · show (_ ++ [_])[H.length]? = _
    rw [app_lt (by simp), app_last]; rfl
end Ev

/- Pages of a chip: erased, or whole texts. -/
namespace Ev
open Go (IntKind)

theorem read_lay {a : NdA} {s : Nd} {b p : Nat} {t : Bytes} (ht : t.length = a.S + 32) (k q : Nat) : (s.lay a b p t).read a k q = if k = b ∧ q = p then t else s.read a k q := by
  unfold Nd.read Nd.lay upd2
  simp only
  by_cases h : k = b ∧ q = p
  · rw [if_pos h, if_pos h]
    by_cases hf : t = fullP a
    · rw [if_pos hf, if_pos rfl]; exact hf.symm
    · rw [if_neg hf, if_neg]
      intro hn; rw [hn] at ht; simp at ht
  · rw [if_neg h, if_neg h]
theorem read_clear {a : NdA} {s : Nd} {b n : Nat} (k q : Nat) : (s.clear b n).read a k q = if k = b ∧ q < n then fullP a else s.read a k q := by
  unfold Nd.read Nd.clear
  simp only
  by_cases h : k = b ∧ q < n
  · rw [if_pos h, if_pos h, if_pos rfl]
  · rw [if_neg h, if_neg h]

/-- Pages are erased, or whole texts that are not the erased page's. -/
def Fine (a : NdA) (s : Nd) : Prop := ∀ b p, s.pages b p = [] ∨ ((s.pages b p).length = a.S + 32 ∧ s.pages b p ≠ fullP a)
theorem Fine.lay {a : NdA} {s : Nd} (h : Fine a s) {b p : Nat} {t : Bytes} (ht : t.length = a.S + 32) : Fine a (s.lay a b p t) := by
  intro k q
  unfold Nd.lay upd2
  simp only
  by_cases hk : k = b ∧ q = p
  · rw [if_pos hk]
    by_cases hf : t = fullP a
    · rw [if_pos hf]; exact .inl rfl
    · rw [if_neg hf]; exact .inr ⟨ht, hf⟩
  · rw [if_neg hk]; exact h k q
theorem Fine.clear {a : NdA} {s : Nd} (h : Fine a s) (b n : Nat) : Fine a (s.clear b n) := by
  intro k q
  unfold Nd.clear
  simp only
  by_cases hk : k = b ∧ q < n
  · rw [if_pos hk]; exact .inl rfl
  · rw [if_neg hk]; exact h k q
theorem Fine.read {a : NdA} {s : Nd} (h : Fine a s) (b p : Nat) : (s.read a b p).length = a.S + 32 := by
  unfold Nd.read
  split
  · simp [fullP]
  · rename_i hn
    exact ((h b p).resolve_left hn).1
end Ev

/- The chip: whatever is asked, in one statement for each function. -/
namespace Ev
open Go (IntKind)

/-- What holds of a chip whatever is done: counts within D, fills are bytes, pages whole. -/
structure Wf (a : NdA) (s : Nd) (D : Int) : Prop where
  did : 0 ≤ s.did ∧ s.did ≤ D
  worn : ∀ b, 0 ≤ s.worn b ∧ s.worn b ≤ D
  cuts : ∀ x ∈ s.cuts, 0 ≤ x.2.2.1 ∧ x.2.2.1 < 256
  fine : Fine a s
  small : D ≤ 1000000
  sz : 1 ≤ a.B ∧ a.B ≤ 1000 ∧ 1 ≤ a.P ∧ a.P ≤ 1000 ∧ a.S ≤ 1000

def Nd.progT (a : NdA) (s : Nd) (b p : Int) (d sp : Bytes) : Int × Nd :=
  if s.inE a b p ≠ 0 then (s.inE a b p, s) else if d.length ≠ a.S ∨ sp.length ≠ 32 then (1, s) else if s.used a b.toNat p.toNat = true then (52, s) else s.program a b.toNat p.toNat (d ++ sp)
def Nd.eraseT (a : NdA) (s : Nd) (b : Int) : Int × Nd := if s.inE a b 0 ≠ 0 then (s.inE a b 0, s) else s.erase a b.toNat
def Nd.markT (a : NdA) (s : Nd) (b : Int) : Int × Nd := if s.inE a b 0 ≠ 0 then (s.inE a b 0, s) else s.domark b.toNat
def Nd.readT (a : NdA) (s : Nd) (b p : Int) : Bytes × Bytes × Int × Unit := if s.inE a b p ≠ 0 then ([], [], s.inE a b p, ()) else ((s.read a b.toNat p.toNat).take a.S, (s.read a b.toNat p.toNat).drop a.S, 0, ())
def Nd.markedT (a : NdA) (s : Nd) (b : Int) : Bool × Int × Unit := if s.inE a b 0 ≠ 0 then (false, s.inE a b 0, ()) else (s.mark b.toNat, 0, ())

theorem in_zero {a : NdA} {s : Nd} {b p : Int} (h : s.inE a b p = 0) : s.off = false ∧ ∃ i q : Nat, b = (i : Int) ∧ p = (q : Int) ∧ i < a.B ∧ q < a.P := by
  unfold Nd.inE at h
  split at h
  · exact absurd h (by decide)
  · rename_i ho
    split at h
    · exact absurd h (by decide)
    · rename_i hb
      refine ⟨by simpa using ho, b.toNat, p.toNat, by omega, by omega, by omega, by omega⟩

section
variable {H : Heap} {a : NdA} {s : Nd} {D : Int}

theorem nand_programT (h : NdAt H a s) (w : Wf a s D) (b p : Int) (d sp : Bytes) : ∃ H', nand_Chip_Program (some (a.c, 0)) b p d sp H = some (((s.progT a b p d sp).1, ()), H') ∧ NdAt H' a (s.progT a b p d sp).2 ∧ Keep a.fp H H' := by
  have hdd := w.did
  have hsm := w.small
  unfold Nd.progT
  by_cases he : s.inE a b p = 0
  · rw [if_neg (by simpa using he)]
    obtain ⟨ho, i, q, rfl, rfl, hi, hq⟩ := in_zero he
    by_cases hl : d.length ≠ a.S ∨ sp.length ≠ 32
    · rw [if_pos hl]
      exact ⟨H, prog_len h he hl, h, Keep.refl _ _⟩
    · rw [if_neg hl]
      have h1 : d.length = a.S := by omega
      have h2 : sp.length = 32 := by omega
      rw [Int.toNat_natCast, Int.toNat_natCast]
      cases hu : s.used a i q with
      | true => exact ⟨H, prog_used h ho hi hq h1 h2 hu, h, Keep.refl _ _⟩
      | false =>
        simp only [Bool.false_eq_true, if_false]
        exact nand_program h (by omega) w.cuts ho hi hq h1 h2 hu
  · rw [if_pos he]
    exact ⟨H, prog_refused h he d sp, h, Keep.refl _ _⟩
theorem nand_eraseT (h : NdAt H a s) (w : Wf a s D) (b : Int) : ∃ H', nand_Chip_Erase (some (a.c, 0)) b H = some (((s.eraseT a b).1, ()), H') ∧ NdAt H' a (s.eraseT a b).2 ∧ Keep a.fp H H' := by
  have hdd := w.did
  have hsm := w.small
  unfold Nd.eraseT
  by_cases he : s.inE a b 0 = 0
  · rw [if_neg (by simpa using he)]
    obtain ⟨ho, i, q, rfl, _, hi, hq⟩ := in_zero he
    have hww := w.worn i
    rw [Int.toNat_natCast]
    exact nand_erase h (by omega) w.cuts ho hi (by omega) (by omega)
  · rw [if_pos he]
    exact ⟨H, erase_refused h he, h, Keep.refl _ _⟩
theorem nand_markT (h : NdAt H a s) (w : Wf a s D) (b : Int) : ∃ H', nand_Chip_Mark (some (a.c, 0)) b H = some (((s.markT a b).1, ()), H') ∧ NdAt H' a (s.markT a b).2 ∧ Keep a.fp H H' := by
  have hdd := w.did
  have hsm := w.small
  unfold Nd.markT
  by_cases he : s.inE a b 0 = 0
  · rw [if_neg (by simpa using he)]
    obtain ⟨ho, i, q, rfl, _, hi, hq⟩ := in_zero he
    rw [Int.toNat_natCast]
    exact nand_mark h (by omega) ho hi (by omega)
  · rw [if_pos he]
    exact ⟨H, mark_refused h he, h, Keep.refl _ _⟩
theorem nand_readT (h : NdAt H a s) (w : Wf a s D) (b p : Int) : ∃ H', nand_Chip_Read (some (a.c, 0)) b p H = some (s.readT a b p, H') ∧ NdAt H' a s ∧ Keep (fun _ => False) H H' := by
  unfold Nd.readT
  by_cases he : s.inE a b p = 0
  · rw [if_neg (by simpa using he)]
    obtain ⟨ho, i, q, rfl, rfl, hi, hq⟩ := in_zero he
    rw [Int.toNat_natCast, Int.toNat_natCast]
    have hf : s.pages i q = [] ∨ (s.pages i q).length = a.S + 32 := by
      rcases w.fine i q with h | h
      · exact .inl h
      · exact .inr h.1
    exact nand_read h ho hi hq hf
  · rw [if_pos he]
    exact ⟨H, read_refused h he, h, Keep.refl _ _⟩
theorem nand_markedT (h : NdAt H a s) (b : Int) : nand_Chip_Marked (some (a.c, 0)) b H = some (s.markedT a b, H) := by
  unfold Nd.markedT
  by_cases he : s.inE a b 0 = 0
  · rw [if_neg (by simpa using he)]
    obtain ⟨ho, i, q, rfl, _, hi, hq⟩ := in_zero he
    rw [Int.toNat_natCast]
    exact nand_marked h ho hi (by omega)
  · rw [if_pos he]
    exact marked_refused h he

theorem Wf.acted (w : Wf a s D) (hD : D < 1000000) : Wf a s.acted (D + 1) := ⟨by have := w.did; show 0 ≤ s.did + 1 ∧ s.did + 1 ≤ D + 1; omega, fun b => by have := w.worn b; show 0 ≤ s.worn b ∧ s.worn b ≤ D + 1; omega, w.cuts, w.fine, by omega, w.sz⟩
theorem Wf.le (w : Wf a s D) {D' : Int} (h : D ≤ D') (h2 : D' ≤ 1000000) : Wf a s D' := ⟨by have := w.did; omega, fun b => by have := w.worn b; omega, w.cuts, w.fine, h2, w.sz⟩
theorem Wf.lay (w : Wf a s D) {b p : Nat} {t : Bytes} (ht : t.length = a.S + 32) : Wf a (s.lay a b p t) D := ⟨w.did, w.worn, w.cuts, w.fine.lay ht, w.small, w.sz⟩
theorem Wf.clear (w : Wf a s D) (b n : Nat) : Wf a (s.clear b n) D := ⟨w.did, w.worn, w.cuts, w.fine.clear b n, w.small, w.sz⟩
theorem Wf.progT (w : Wf a s D) (hD : D < 1000000) (b p : Int) (d sp : Bytes) : Wf a (s.progT a b p d sp).2 (D + 1) ∧ (s.progT a b p d sp).2.did ≤ s.did + 1 ∧ s.did ≤ (s.progT a b p d sp).2.did := by
  unfold Nd.progT
  split
  · exact ⟨w.le (by omega) (by omega), by simp only; omega, Int.le_refl _⟩
  · split
    · exact ⟨w.le (by omega) (by omega), by simp only; omega, Int.le_refl _⟩
    · rename_i hl
      have hl2 : (d ++ sp).length = a.S + 32 := by rw [List.length_append]; omega
      split
      · exact ⟨w.le (by omega) (by omega), by simp only; omega, Int.le_refl _⟩
      · have wa := w.acted hD
        unfold Nd.program
        split
        · exact ⟨wa.lay (by rw [tornB_length]; exact hl2), Int.le_refl _, by show s.did ≤ s.did + 1; omega⟩
        · split
          · exact ⟨(show Wf a { s.acted with dead := upd s.dead b.toNat true } (D + 1) from ⟨wa.did, wa.worn, wa.cuts, wa.fine, wa.small, wa.sz⟩).lay (by rw [List.length_replicate]; exact hl2), Int.le_refl _, by show s.did ≤ s.did + 1; omega⟩
          · exact ⟨wa.lay hl2, Int.le_refl _, by show s.did ≤ s.did + 1; omega⟩
theorem Wf.eraseT (w : Wf a s D) (hD : D < 1000000) (b : Int) : Wf a (s.eraseT a b).2 (D + 1) ∧ (s.eraseT a b).2.did ≤ s.did + 1 ∧ s.did ≤ (s.eraseT a b).2.did := by
  unfold Nd.eraseT
  split
  · exact ⟨w.le (by omega) (by omega), by simp only; omega, Int.le_refl _⟩
  · have wa := w.acted hD
    have wb : Wf a { s.acted with worn := upd s.worn b.toNat (s.worn b.toNat + 1) } (D + 1) := ⟨wa.did, fun c => by
      have h1 := w.worn b.toNat
      have h2 := w.worn c
      show 0 ≤ upd s.worn b.toNat (s.worn b.toNat + 1) c ∧ upd s.worn b.toNat (s.worn b.toNat + 1) c ≤ D + 1
      unfold upd
      split <;> omega, wa.cuts, wa.fine, wa.small, wa.sz⟩
    unfold Nd.erase
    split
    · simp only
      split
      · exact ⟨(wb.clear _ _).lay (by simp), Int.le_refl _, by show s.did ≤ s.did + 1; omega⟩
      · exact ⟨wb.clear _ _, Int.le_refl _, by show s.did ≤ s.did + 1; omega⟩
    · split
      · exact ⟨⟨wb.did, wb.worn, wb.cuts, wb.fine, wb.small, wb.sz⟩, Int.le_refl _, by show s.did ≤ s.did + 1; omega⟩
      · exact ⟨wb.clear _ _, Int.le_refl _, by show s.did ≤ s.did + 1; omega⟩
theorem Wf.markT (w : Wf a s D) (hD : D < 1000000) (b : Int) : Wf a (s.markT a b).2 (D + 1) ∧ (s.markT a b).2.did ≤ s.did + 1 ∧ s.did ≤ (s.markT a b).2.did := by
  unfold Nd.markT
  split
  · exact ⟨w.le (by omega) (by omega), by simp only; omega, Int.le_refl _⟩
  · have wa := w.acted hD
    unfold Nd.domark
    split
    · simp only
      split
      · exact ⟨⟨wa.did, wa.worn, wa.cuts, wa.fine, wa.small, wa.sz⟩, Int.le_refl _, by show s.did ≤ s.did + 1; omega⟩
      · exact ⟨wa, Int.le_refl _, by show s.did ≤ s.did + 1; omega⟩
    · exact ⟨⟨wa.did, wa.worn, wa.cuts, wa.fine, wa.small, wa.sz⟩, Int.le_refl _, by show s.did ≤ s.did + 1; omega⟩
theorem readT_length (w : Wf a s D) (b p : Int) : (s.readT a b p).1.length + (s.readT a b p).2.1.length ≤ 2000 := by
  have := w.sz
  unfold Nd.readT
  split
  · simp
  · have := w.fine.read b.toNat p.toNat
    simp only [List.length_take, List.length_drop]; omega
end
end Ev

/- crc.More and crc.Sum tell the check of bytes. -/
namespace Ev
open Go (IntKind)

def nats (s : Bytes) : List Nat := s.map UInt8.toNat
theorem nats_length (s : Bytes) : (nats s).length = s.length := by simp [nats]
theorem nats_lt {s : Bytes} : ∀ b ∈ nats s, b < 256 := by
  intro b hb
  obtain ⟨x, _, rfl⟩ := List.mem_map.1 hb
  exact x.toNat_lt
theorem nats_append (a b : Bytes) : nats (a ++ b) = nats a ++ nats b := by simp [nats]

/-- The check of bytes behind others, of which it is c. -/
def crcMore (c : Nat) (s : Bytes) : Nat := crun (4294967295 ^^^ c) (nats s) ^^^ 4294967295
theorem crcMore_lt {c : Nat} {s : Bytes} (h : c < 4294967296) : crcMore c s < 4294967296 := xor_lt32 (crun_lt (xor_lt32 (by decide) h) nats_lt) (by decide)
theorem crun_append (c : Nat) (a b : List Nat) : crun c (a ++ b) = crun (crun c a) b := by simp [crun, List.foldl_append]
theorem crcMore_app (a b : Bytes) : crcMore (crcMore 0 a) b = crcMore 0 (a ++ b) := by
  unfold crcMore
  rw [nats_append, crun_append, Nat.xor_zero, Nat.xor_comm (crun _ (nats a)), ← Nat.xor_assoc, Nat.xor_self, Nat.zero_xor]

theorem cbits_snoc : ∀ (n c : Nat), cbits (n + 1) c = cbit (cbits n c)
  | 0, _ => rfl
  | n + 1, c => by show cbits (n + 1) (cbit c) = _; rw [cbits_snoc n]; rfl

theorem crc_bits (c : Nat) (hc : c < 4294967296) (H : Heap) : loopW crc_More.s1 ((c : Int), 0, ()) H = some ((((cbits 8 c : Nat) : Int), ()), H) := by
  refine loop_for' 8 (fun i => (((cbits i c : Nat) : Int), (i : Int), ())) (fun _ => H) rfl rfl ?_ ?_
  · intro i hi
    have hlt : cbits i c < 4294967296 := cbits_lt hc
    unfold crc_More.s1
    have h8 : decide ((i : Int) < 8) = true := decide_eq_true (by omega)
    have ha : bitsI .and .u32 ((cbits i c : Nat) : Int) 1 = ((cbits i c % 2 : Nat) : Int) := by
      rw [show (1 : Int) = ((1 : Nat) : Int) from rfl, and32 hlt (by decide), Nat.and_one_is_mod]
    have hs : Int.fdiv ((cbits i c : Nat) : Int) (2 ^ (min (Int.toNat 1) (IntKind.bits .u32))) = ((cbits i c / 2 : Nat) : Int) := by
      rw [show min (Int.toNat 1) (IntKind.bits .u32) = 1 from rfl, shr_nat, Nat.shiftRight_eq_div_pow]
    simp only [h8, cond_t, ha, hs, wrap_succ (show i < 9223372036854775807 by omega), cbits_snoc]
    unfold cbit
    by_cases hm : cbits i c % 2 = 1
    · rw [if_pos hm, decide_eq_true (by omega), cond_t, show (2197175160 : Int) = ((2197175160 : Nat) : Int) from rfl, xor32 (by omega) (by decide)]
    · rw [if_neg hm, decide_eq_false (by omega), cond_f]
  · unfold crc_More.s1
    rfl

theorem crc_More_eq (c : Nat) (s : Bytes) (hc : c < 4294967296) (hs : s.length < 9223372036854775807) : crc_More (c : Int) s = some (((crcMore c s : Nat) : Int), ()) := by
  unfold crc_More crc_More.on
  rw [show (4294967295 : Int) = ((4294967295 : Nat) : Int) from rfl, xor32 (by decide) hc]
  have h0 : 4294967295 ^^^ c < 4294967296 := xor_lt32 (by decide) hc
  have hl : loopW (crc_More.s2 s) (((4294967295 ^^^ c : Nat) : Int), 0, ()) [] = some ((((crun (4294967295 ^^^ c) (nats s) : Nat) : Int), ()), []) := by
    refine loop_for' s.length (fun i => (((crun (4294967295 ^^^ c) ((nats s).take i) : Nat) : Int), (i : Int), ())) (fun _ => []) rfl rfl ?_ ?_
    · intro i hi
      have hlt : crun (4294967295 ^^^ c) ((nats s).take i) < 4294967296 := crun_lt h0 fun b hb => nats_lt b (List.mem_of_mem_take hb)
      have hb := s[i].toNat_lt
      unfold crc_More.s2
      have hd : decide ((i : Int) < (s.length : Int)) = true := decide_eq_true (by omega)
      have hw : IntKind.wrap .u32 ((s[i].toNat : Nat) : Int) = ((s[i].toNat : Nat) : Int) := by rw [wrap_u32]; omega
      simp only [hd, cond_t, idx_of hi, bind_some, hw, xor32 hlt (show s[i].toNat < 4294967296 by omega), crc_bits _ (xor_lt32 hlt (show s[i].toNat < 4294967296 by omega)), wrap_succ (show i < 9223372036854775807 by omega)]
      rw [List.take_add_one, List.getElem?_eq_getElem (by rw [nats_length]; exact hi), crun_append]
      simp [nats, crun, cbyte]
    · unfold crc_More.s2
      have hd : decide ((s.length : Int) < (s.length : Int)) = false := decide_eq_false (by omega)
      simp only [hd, cond_f]
      rw [List.take_of_length_le (by rw [nats_length]; exact Nat.le_refl _)]
  rw [hl, bind_some, xor32 (crun_lt h0 nats_lt) (by decide)]
  rfl

theorem crc_Sum_eq (s : Bytes) (hs : s.length < 9223372036854775807) : crc_Sum s = some (((crcMore 0 s : Nat) : Int), ()) := by
  unfold crc_Sum crc_Sum.on
  rw [show (0 : Int) = ((0 : Nat) : Int) from rfl, crc_More_eq 0 s (by decide) hs]; rfl

end Ev

/- Pages as bytes: page.Check, Frame and Look, in plain Lean. -/
namespace Ev
open Go (IntKind)

abbrev Tg := Int × Int × Int × Int × Int × Unit
def tag0 : Tg := (0, 0, 0, 0, 0, ())
def tagOK (t : Tg) : Bool := decide (1 ≤ t.1 ∧ t.1 ≤ 3 ∧ 1 ≤ t.2.2.2.1 ∧ t.2.2.2.1 < 65536 ∧ 0 ≤ t.2.2.1 ∧ t.2.2.1 < t.2.2.2.1 ∧ 0 ≤ t.2.2.2.2.1 ∧ t.2.2.2.2.1 < 4294967296)
def zerosB (n : Nat) : Bytes := List.replicate n 0
def rowOf (t : Tg) (n : Nat) : Bytes := leB 1 t.1.toNat ++ leB 8 t.2.1.toNat ++ leB 2 t.2.2.1.toNat ++ leB 2 t.2.2.2.1.toNat ++ leB 4 t.2.2.2.2.1.toNat ++ leB 2 n ++ zerosB 9
def dataOf (s : Bytes) (size : Nat) : Bytes := s ++ zerosB (size - s.length)
def spareOf (t : Tg) (s : Bytes) (size : Nat) : Bytes := rowOf t s.length ++ leB 4 (crcMore 0 (dataOf s size ++ rowOf t s.length))

theorem rowOf_length (t : Tg) (n : Nat) : (rowOf t n).length = 28 := by simp [rowOf, leB_length, zerosB]
theorem dataOf_length {s : Bytes} {size : Nat} (h : s.length ≤ size) : (dataOf s size).length = size := by simp [dataOf, zerosB]; omega
theorem spareOf_length (t : Tg) (s : Bytes) (size : Nat) : (spareOf t s size).length = 32 := by simp [spareOf, rowOf_length, leB_length]

theorem page_Check_eq (t : Tg) : page_Check t = some (tagOK t, ()) := by
  obtain ⟨k, q, i, o, w, u⟩ := t
  have r0 : ∀ a b c d e, rdI .i64 [Blk.cells [.int .i64 a, .int .u64 b, .int .i64 c, .int .i64 d, .int .i64 e] .exact] 0 0 = some a := fun _ _ _ _ _ => rfl
  have r2 : ∀ a b c d e, rdI .i64 [Blk.cells [.int .i64 a, .int .u64 b, .int .i64 c, .int .i64 d, .int .i64 e] .exact] 0 2 = some c := fun _ _ _ _ _ => rfl
  have r3 : ∀ a b c d e, rdI .i64 [Blk.cells [.int .i64 a, .int .u64 b, .int .i64 c, .int .i64 d, .int .i64 e] .exact] 0 3 = some d := fun _ _ _ _ _ => rfl
  have r4 : ∀ a b c d e, rdI .i64 [Blk.cells [.int .i64 a, .int .u64 b, .int .i64 c, .int .i64 d, .int .i64 e] .exact] 0 4 = some e := fun _ _ _ _ _ => rfl
  unfold page_Check page_Check.on tagOK
  simp only [List.nil_append, List.length_nil, r0, r2, r3, r4, bind_some]
  by_cases h1 : 1 ≤ k
  · by_cases h2 : k ≤ 3
    · by_cases h3 : 1 ≤ o
      · by_cases h4 : o < 65536
        · by_cases h5 : 0 ≤ i
          · by_cases h6 : i < o
            · by_cases h7 : 0 ≤ w
              · by_cases h8 : w < 4294967296 <;> simp [h1, h2, h3, h4, h5, h6, h7, h8]
              · simp [h1, h2, h3, h4, h5, h6, h7]
            · simp [h1, h2, h3, h4, h5, h6]
          · simp [h1, h2, h3, h4, h5]
        · simp [h1, h2, h3, h4]
      · simp [h1, h2, h3]
    · simp [h1, h2]
  · simp [h1]

theorem rd_tag {H : Heap} {b : Nat} {a c d e f : Int} {bk : BK} (h : H[b]? = some (.cells [.int .i64 a, .int .u64 c, .int .i64 d, .int .i64 e, .int .i64 f] bk)) :
    @Eq (Option Tg) (rd H (.agg [.int .i64, .int .u64, .int .i64, .int .i64, .int .i64]) b 0) (some (a, c, d, e, f, ())) := by
  simp only [rd, Heap.row, h]; rfl

theorem wrap64_nat {n : Nat} (h : n < 18446744073709551616) : IntKind.wrap .u64 (n : Int) = (n : Int) := by rw [wrap_u64]; omega
theorem wrap64_int {n : Int} (h0 : 0 ≤ n) (h : n < 18446744073709551616) : IntKind.wrap .u64 n = ((n.toNat : Nat) : Int) := by rw [wrap_u64]; omega

theorem page_Frame_no {t : Tg} {s : Bytes} {size : Int} (h : tagOK t = false ∨ size < 0 ∨ 65536 ≤ size ∨ size < s.length) : page_Frame t s size = some ([], [], 1, ()) := by
  obtain ⟨k, q, i, o, w, u⟩ := t
  unfold page_Frame page_Frame.on
  simp only [List.nil_append, List.length_nil]
  rw [rd_tag (H := [Blk.cells [.int .i64 k, .int .u64 q, .int .i64 i, .int .i64 o, .int .i64 w] .exact]) (b := 0) rfl]
  simp only [bind_some, page_Check_eq]
  cases h1 : tagOK (k, q, i, o, w, ()) with
  | false => rfl
  | true =>
    by_cases h2 : size < 0
    · simp [h2]
    · by_cases h3 : 65536 ≤ size
      · simp [h2, h3]
      · by_cases h4 : size < s.length
        · simp [h2, h3, h4]
        · exfalso
          rcases h with h | h | h | h
          · have : tagOK (k, q, i, o, w, u) = tagOK (k, q, i, o, w, ()) := rfl
            rw [this, h1] at h; cases h
          · exact h2 h
          · exact h3 h
          · exact h4 h

theorem page_Frame_yes {t : Tg} {s : Bytes} {size : Nat} (h1 : tagOK t = true) (hq : 0 ≤ t.2.1 ∧ t.2.1 < 18446744073709551616) (h3 : size < 65536) (h4 : s.length ≤ size) : page_Frame t s (size : Int) = some (dataOf s size, spareOf t s size, 0, ()) := by
  obtain ⟨k, q, i, o, w, u⟩ := t
  have ht := of_decide_eq_true h1
  simp only at ht hq
  unfold page_Frame page_Frame.on
  simp only [List.nil_append, List.length_nil]
  rw [rd_tag (H := [Blk.cells [.int .i64 k, .int .u64 q, .int .i64 i, .int .i64 o, .int .i64 w] .exact]) (b := 0) rfl]
  have r0 : ∀ a b c d e, rdI .i64 [Blk.cells [.int .i64 a, .int .u64 b, .int .i64 c, .int .i64 d, .int .i64 e] .exact] 0 0 = some a := fun _ _ _ _ _ => rfl
  have r1 : ∀ a b c d e, rdI .u64 [Blk.cells [.int .i64 a, .int .u64 b, .int .i64 c, .int .i64 d, .int .i64 e] .exact] 0 1 = some b := fun _ _ _ _ _ => rfl
  have r2 : ∀ a b c d e, rdI .i64 [Blk.cells [.int .i64 a, .int .u64 b, .int .i64 c, .int .i64 d, .int .i64 e] .exact] 0 2 = some c := fun _ _ _ _ _ => rfl
  have r3 : ∀ a b c d e, rdI .i64 [Blk.cells [.int .i64 a, .int .u64 b, .int .i64 c, .int .i64 d, .int .i64 e] .exact] 0 3 = some d := fun _ _ _ _ _ => rfl
  have r4 : ∀ a b c d e, rdI .i64 [Blk.cells [.int .i64 a, .int .u64 b, .int .i64 c, .int .i64 d, .int .i64 e] .exact] 0 4 = some e := fun _ _ _ _ _ => rfl
  have h1' : tagOK (k, q, i, o, w, ()) = true := h1
  have d2 : decide ((size : Int) < 0) = false := decide_eq_false (by omega)
  have d3 : decide (65536 ≤ (size : Int)) = false := decide_eq_false (by omega)
  have d4 : decide ((size : Int) < (s.length : Int)) = false := decide_eq_false (by omega)
  have ew : IntKind.wrap .i64 ((size : Int) - (s.length : Int)) = ((size - s.length : Nat) : Int) := by rw [wrap_i64 (by omega) (by omega)]; omega
  simp only [bind_some, page_Check_eq, h1', Bool.not_true, cond_f, d2, d3, d4, r0, r1, r2, r3, r4, ew]
  rw [rep_of (by simp; omega) (by omega), flat1]
  have l1 := dataOf_length h4
  have c1 : catS s (List.replicate (size - s.length) 0) = some (dataOf s size) := by rw [cat_of (by simp; omega)]; rfl
  have f1 : code_Fixed (IntKind.wrap .u64 k) 1 = some (leB 1 k.toNat, ()) := by rw [wrap64_int (by omega) (by omega)]; exact code_Fixed_eq _ 1 (by omega) (by decide)
  have f2 : code_Fixed q 8 = some (leB 8 q.toNat, ()) := by rw [show q = ((q.toNat : Nat) : Int) by omega]; exact code_Fixed_eq _ 8 (by omega) (by decide)
  have f3 : code_Fixed (IntKind.wrap .u64 i) 2 = some (leB 2 i.toNat, ()) := by rw [wrap64_int (by omega) (by omega)]; exact code_Fixed_eq _ 2 (by omega) (by decide)
  have f4 : code_Fixed (IntKind.wrap .u64 o) 2 = some (leB 2 o.toNat, ()) := by rw [wrap64_int (by omega) (by omega)]; exact code_Fixed_eq _ 2 (by omega) (by decide)
  have f5 : code_Fixed (IntKind.wrap .u64 w) 4 = some (leB 4 w.toNat, ()) := by rw [wrap64_int (by omega) (by omega)]; exact code_Fixed_eq _ 4 (by omega) (by decide)
  have f6 : code_Fixed (IntKind.wrap .u64 (s.length : Int)) 2 = some (leB 2 s.length, ()) := by rw [wrap64_nat (by omega)]; exact code_Fixed_eq _ 2 (by omega) (by decide)
  simp only [bind_some, c1, f1, f2, f3, f4, f5, f6]
  rw [cat_of (by simp [leB_length]), bind_some, cat_of (by simp [leB_length]), bind_some, cat_of (by simp [leB_length]), bind_some, cat_of (by simp [leB_length]), bind_some, cat_of (by simp [leB_length]), bind_some]
  have lr : (leB 1 k.toNat ++ leB 8 q.toNat ++ leB 2 i.toNat ++ leB 2 o.toNat ++ leB 4 w.toNat ++ leB 2 s.length).length = 19 := by simp [leB_length]
  have ew2 : IntKind.wrap .i64 (28 - ((leB 1 k.toNat ++ leB 8 q.toNat ++ leB 2 i.toNat ++ leB 2 o.toNat ++ leB 4 w.toNat ++ leB 2 s.length).length : Int)) = ((9 : Nat) : Int) := by rw [lr]; rfl
  rw [ew2, rep_of (by simp) (by decide), flat1, bind_some, cat_of (by simp [leB_length]), bind_some]
  have er : (leB 1 k.toNat ++ leB 8 q.toNat ++ leB 2 i.toNat ++ leB 2 o.toNat ++ leB 4 w.toNat ++ leB 2 s.length ++ List.replicate 9 (0 : UInt8)) = rowOf (k, q, i, o, w, u) s.length := rfl
  rw [er, crc_Sum_eq _ (by rw [l1]; omega), bind_some]
  have lr2 := rowOf_length (k, q, i, o, w, u) s.length
  have hc0 : crcMore 0 (dataOf s size) < 4294967296 := crcMore_lt (by decide)
  rw [crc_More_eq _ _ hc0 (by rw [lr2]; decide), bind_some, crcMore_app]
  have hc1 : crcMore 0 (dataOf s size ++ rowOf (k, q, i, o, w, u) s.length) < 4294967296 := crcMore_lt (by decide)
  rw [wrap64_nat (by omega)]
  rw [show code_Fixed ((crcMore 0 (dataOf s size ++ rowOf (k, q, i, o, w, u) s.length) : Nat) : Int) 4 = some (leB 4 (crcMore 0 (dataOf s size ++ rowOf (k, q, i, o, w, u) s.length)), ()) from code_Fixed_eq _ 4 (by omega) (by decide), bind_some, cat_of (by rw [lr2, leB_length]; decide), bind_some]
  rfl

/-! Look. -/
def cleanB (s : Bytes) : Bool := s.all fun b => b == 255
theorem page_erased_eq (s : Bytes) (hs : s.length < 9223372036854775807) : page_erased s = some (cleanB s, ()) := by
  unfold page_erased page_erased.on
  obtain ⟨x, H', h1, h2⟩ := loopW_run (step := page_erased.s1 s) (fun t _ => ∃ i : Nat, i ≤ s.length ∧ t.1 = (i : Int) ∧ cleanB (s.take i) = true) (fun x _ => match x with | .inl _ => cleanB s = true | .inr b => cleanB s = false ∧ b.1 = false) (fun t _ => s.length - t.1.toNat)
    (by
      rintro ⟨j, u⟩ H ⟨i, hi, hj, hc⟩
      have hj : j = (i : Int) := hj
      subst hj
      unfold page_erased.s1
      by_cases hlt : i < s.length
      · have hd : decide ((i : Int) < (s.length : Int)) = true := decide_eq_true (by omega)
        simp only [hd, cond_t, idx_of hlt, bind_some]
        have htk : s.take (i + 1) = s.take i ++ [s[i]] := by rw [List.take_add_one, List.getElem?_eq_getElem hlt]; rfl
        by_cases h255 : s[i] = 255
        · have : decide (((s[i].toNat : Nat) : Int) = 255) = true := decide_eq_true (by rw [h255]; rfl)
          simp only [this, Bool.not_true, cond_f, wrap_succ (show i < 9223372036854775807 by omega), Round]
          refine ⟨⟨i + 1, hlt, rfl, ?_⟩, by simp; omega⟩
          rw [htk]
          unfold cleanB at hc ⊢
          rw [List.all_append, hc]; simp [h255]
        · have : decide (((s[i].toNat : Nat) : Int) = 255) = false := decide_eq_false (by
            intro hh
            apply h255
            apply UInt8.toNat_inj.1
            have : (255 : UInt8).toNat = 255 := rfl
            omega)
          simp only [this, Bool.not_false, cond_t, Round]
          refine ⟨?_, trivial⟩
          unfold cleanB
          rw [List.all_eq_false]
          exact ⟨s[i], List.getElem_mem hlt, by simpa using h255⟩
      · have : i = s.length := by omega
        subst this
        have hd : decide ((s.length : Int) < (s.length : Int)) = false := decide_eq_false (by omega)
        simp only [hd, cond_f, Round]
        rw [List.take_length] at hc
        exact hc) (0, ()) [] ⟨0, Nat.zero_le _, rfl, rfl⟩
  rw [h1, bind_some]
  cases x with
  | inl _ => have h2 : cleanB s = true := h2; simp [h2]
  | inr b => obtain ⟨g1, g2⟩ : cleanB s = false ∧ b.1 = false := h2; simp [g1, g2]

def fld (b : Bytes) (o n : Nat) : Nat := valB ((b.drop o).take n)
theorem fld_lt (b : Bytes) (o n : Nat) : fld b o n < 256 ^ n := by
  have h := valB_lt ((b.drop o).take n)
  exact Nat.lt_of_lt_of_le h (Nat.pow_le_pow_right (by decide) (by simp; omega))
def tagOf (b : Bytes) : Tg := ((fld b 0 1 : Nat), (fld b 1 8 : Nat), (fld b 9 2 : Nat), (fld b 11 2 : Nat), (fld b 13 4 : Nat), ())
def longOf (b : Bytes) : Nat := fld b 17 2
theorem tagOf_seq (b : Bytes) : 0 ≤ (tagOf b).2.1 ∧ (tagOf b).2.1 < 18446744073709551616 := by
  have := fld_lt b 1 8
  simp only [tagOf]; omega
/-- Is it a page that is whole? -/
def whole (a b : Bytes) : Bool := decide (b.length = 32 ∧ longOf b ≤ a.length ∧ tagOK (tagOf b) = true ∧ a.length < 65536 ∧ dataOf (a.take (longOf b)) a.length = a ∧ spareOf (tagOf b) (a.take (longOf b)) a.length = b)
def lookP (a b : Bytes) : Int × Tg × Bytes × Unit :=
  if cleanB a = true ∧ cleanB b = true then (0, tag0, [], ()) else if whole a b = true then (1, tagOf b, a.take (longOf b), ()) else (2, tag0, [], ())

theorem rf2 (A : Blk) (s : Bytes) (n : Nat) (h : n ≤ s.length) (h8 : n ≤ 8) : code_Reader_Fixed (some (1, 0)) (n : Int) [A, rdr s 0] = some ((((valB (s.take n) : Nat) : Int), ()), [A, rdr (s.drop n) 0]) := code_RFixed_eq (H := [A, rdr s 0]) rfl h h8
theorem rf3 (A B : Blk) (s : Bytes) (n : Nat) (h : n ≤ s.length) (h8 : n ≤ 8) : code_Reader_Fixed (some (1, 0)) (n : Int) [A, rdr s 0, B] = some ((((valB (s.take n) : Nat) : Int), ()), [A, rdr (s.drop n) 0, B]) := code_RFixed_eq (H := [A, rdr s 0, B]) rfl h h8

def tagB (t : Tg) : Blk := .cells [.int .i64 t.1, .int .u64 t.2.1, .int .i64 t.2.2.1, .int .i64 t.2.2.2.1, .int .i64 t.2.2.2.2.1] .exact
theorem wr_tag (H : Heap) (b : Nat) (t : Tg) (h : H[b]? = some (tagB t)) (u : Tg) : wr H b 0 [.int .i64 u.1, .int .u64 u.2.1, .int .i64 u.2.2.1, .int .i64 u.2.2.2.1, .int .i64 u.2.2.2.2.1] = some (H.set b (tagB u)) := by
  rw [wr_of h (by decide) (by simp)]; rfl

set_option maxRecDepth 4000 in
theorem page_Look_eq (a b : Bytes) (ha : a.length < 4611686018427387904) (hb : b.length < 4611686018427387904) : page_Look a b = some (lookP a b) := by
  unfold page_Look page_Look.on lookP
  have er (x : Bytes) (hx : x.length < 4611686018427387904) := page_erased_eq x (by omega)
  simp only [er a ha, er b hb, bind_some, List.nil_append, List.length_nil]
  by_cases hcl : cleanB a = true ∧ cleanB b = true
  · simp only [if_pos hcl, hcl.1, hcl.2, cond_t]; rfl
  rw [if_neg hcl]
  have e1 : (cond (cleanB a) (cond (cleanB b) ((wr [Blk.cells [.int .i64 0, .int .u64 0, .int .i64 0, .int .i64 0, .int .i64 0] .exact] 0 0 [.int .i64 0, .int .u64 0, .int .i64 0, .int .i64 0, .int .i64 0]).bind fun (H4 : Heap) => some (Sum.inr (0, [], ()), H4)) (some (Sum.inl (()), [Blk.cells [.int .i64 0, .int .u64 0, .int .i64 0, .int .i64 0, .int .i64 0] .exact]))) (some (Sum.inl (()), [Blk.cells [.int .i64 0, .int .u64 0, .int .i64 0, .int .i64 0, .int .i64 0] .exact])) : Option (((Unit) ⊕ (Int × Bytes × Unit)) × Heap)) = some (Sum.inl (), [tagB tag0]) := by
    cases h1 : cleanB a with
    | false => rfl
    | true =>
      cases h2 : cleanB b with
      | false => rfl
      | true => exact absurd ⟨h1, h2⟩ hcl
  rw [e1]
  simp only [bind_some, Sum.elim_inl]
  by_cases h32 : b.length = 32
  rotate_left
  · have d : decide ((b.length : Int) = 32) = false := decide_eq_false (by omega)
    have hw : whole a b = false := decide_eq_false (fun h => h32 h.1)
    simp only [d, Bool.not_false, cond_t, hw]
    rfl
  have d : decide ((b.length : Int) = 32) = true := decide_eq_true (by omega)
  simp only [d, Bool.not_true, cond_f, code_New_eq, bind_some, List.length_cons, List.length_nil, List.cons_append, List.nil_append, Nat.zero_add]
  have g1 := rf2 (tagB tag0) b 1 (by omega) (by decide)
  have g2 := rf2 (tagB tag0) (b.drop 1) 8 (by simp; omega) (by decide)
  have g3 := rf2 (tagB tag0) (b.drop 9) 2 (by simp; omega) (by decide)
  have g4 := rf2 (tagB tag0) (b.drop 11) 2 (by simp; omega) (by decide)
  have g5 := rf2 (tagB tag0) (b.drop 13) 4 (by simp; omega) (by decide)
  have g6 : ∀ B, _ := fun B => rf3 (tagB tag0) B (b.drop 17) 2 (by simp; omega) (by decide)
  simp only [List.drop_drop, Nat.reduceAdd] at g1 g2 g3 g4 g5 g6
  have q0 : fld b 0 1 = valB (b.take 1) := rfl
  have t1 := fld_lt b 0 1; have t2 := fld_lt b 1 8; have t3 := fld_lt b 9 2; have t4 := fld_lt b 11 2; have t5 := fld_lt b 13 4; have t6 := fld_lt b 17 2
  have k1 : code_Reader_Fixed (some (1, 0)) 1 [tagB tag0, rdr b 0] = some ((((fld b 0 1 : Nat) : Int), ()), [tagB tag0, rdr (b.drop 1) 0]) := g1
  have k2 : code_Reader_Fixed (some (1, 0)) 8 [tagB tag0, rdr (b.drop 1) 0] = some ((((fld b 1 8 : Nat) : Int), ()), [tagB tag0, rdr (b.drop 9) 0]) := g2
  have k3 : code_Reader_Fixed (some (1, 0)) 2 [tagB tag0, rdr (b.drop 9) 0] = some ((((fld b 9 2 : Nat) : Int), ()), [tagB tag0, rdr (b.drop 11) 0]) := g3
  have k4 : code_Reader_Fixed (some (1, 0)) 2 [tagB tag0, rdr (b.drop 11) 0] = some ((((fld b 11 2 : Nat) : Int), ()), [tagB tag0, rdr (b.drop 13) 0]) := g4
  have k5 : code_Reader_Fixed (some (1, 0)) 4 [tagB tag0, rdr (b.drop 13) 0] = some ((((fld b 13 4 : Nat) : Int), ()), [tagB tag0, rdr (b.drop 17) 0]) := g5
  have k6 : ∀ B, code_Reader_Fixed (some (1, 0)) 2 [tagB tag0, rdr (b.drop 17) 0, B] = some ((((longOf b : Nat) : Int), ()), [tagB tag0, rdr (b.drop 19) 0, B]) := g6
  have w1 : IntKind.wrap .i64 ((fld b 0 1 : Nat) : Int) = ((fld b 0 1 : Nat) : Int) := wrap_i64 (by omega) (by omega)
  have w3 : IntKind.wrap .i64 ((fld b 9 2 : Nat) : Int) = ((fld b 9 2 : Nat) : Int) := wrap_i64 (by omega) (by omega)
  have w4 : IntKind.wrap .i64 ((fld b 11 2 : Nat) : Int) = ((fld b 11 2 : Nat) : Int) := wrap_i64 (by omega) (by omega)
  have w5 : IntKind.wrap .i64 ((fld b 13 4 : Nat) : Int) = ((fld b 13 4 : Nat) : Int) := wrap_i64 (by omega) (by omega)
  have w6 : IntKind.wrap .i64 ((longOf b : Nat) : Int) = ((longOf b : Nat) : Int) := wrap_i64 (by unfold longOf; omega) (by unfold longOf; omega)
  have ww : ∀ (A B : Blk), wr [A, B, Blk.cells [.int .i64 0, .int .u64 0, .int .i64 0, .int .i64 0, .int .i64 0] .exact] 2 0 [.int .i64 ((fld b 0 1 : Nat) : Int), .int .u64 ((fld b 1 8 : Nat) : Int), .int .i64 ((fld b 9 2 : Nat) : Int), .int .i64 ((fld b 11 2 : Nat) : Int), .int .i64 ((fld b 13 4 : Nat) : Int)] = some [A, B, tagB (tagOf b)] := fun _ _ => rfl
  have rr : ∀ (A B : Blk) (t : Tg), @Eq (Option Tg) (rd [A, B, tagB t] (.agg [.int .i64, .int .u64, .int .i64, .int .i64, .int .i64]) 2 0) (some (t.1, t.2.1, t.2.2.1, t.2.2.2.1, t.2.2.2.2.1, ())) := fun _ _ _ => rfl
  have wz : ∀ (B D : Blk), wr [tagB tag0, B, D] 0 0 [.int .i64 0, .int .u64 0, .int .i64 0, .int .i64 0, .int .i64 0] = some [tagB tag0, B, D] := fun _ _ => rfl
  have rz : ∀ (B D : Blk) (t : Tg), @Eq (Option Tg) (rd [tagB t, B, D] (.agg [.int .i64, .int .u64, .int .i64, .int .i64, .int .i64]) 0 0) (some (t.1, t.2.1, t.2.2.1, t.2.2.2.1, t.2.2.2.2.1, ())) := fun _ _ _ => rfl
  have wf : ∀ (B D : Blk) (t : Tg), wr [tagB tag0, B, D] 0 0 [.int .i64 t.1, .int .u64 t.2.1, .int .i64 t.2.2.1, .int .i64 t.2.2.2.1, .int .i64 t.2.2.2.2.1] = some [tagB t, B, D] := fun _ _ _ => rfl
  simp only [k1, k2, k3, k4, k5, bind_some, w1, w3, w4, w5, List.cons_append, List.nil_append, List.length_cons, List.length_nil, Nat.zero_add, Nat.reduceAdd, ww, k6, w6]
  by_cases hl : longOf b ≤ a.length
  rotate_left
  · have d2 : decide ((a.length : Int) < ((longOf b : Nat) : Int)) = true := decide_eq_true (by omega)
    have hw : whole a b = false := decide_eq_false (fun h => hl h.2.1)
    simp only [d2, cond_t, wz, bind_some, rz, hw]
    rfl
  have d2 : decide ((a.length : Int) < ((longOf b : Nat) : Int)) = false := decide_eq_false (by omega)
  simp only [d2, cond_f, rr, bind_some, page_Check_eq]
  have he : tagOK ((tagOf b).1, (tagOf b).2.1, (tagOf b).2.2.1, (tagOf b).2.2.2.1, (tagOf b).2.2.2.2.1, ()) = tagOK (tagOf b) := rfl
  rw [he]
  cases hok : tagOK (tagOf b) with
  | false =>
    have hw : whole a b = false := decide_eq_false (fun h => by rw [hok] at h; exact absurd h.2.2.1 (by decide))
    simp only [Bool.not_false, cond_t, wz, bind_some, rz, hw]
    rfl
  | true =>
    simp only [Bool.not_true, cond_f]
    have hsub : subS a 0 ((longOf b : Nat) : Int) = some (a.take (longOf b)) := by
      rw [show (0 : Int) = ((0 : Nat) : Int) from rfl, sub_of (Nat.zero_le _) hl]; rfl
    simp only [hsub, bind_some]
    by_cases h65 : a.length < 65536
    rotate_left
    · have hno := page_Frame_no (t := tagOf b) (s := a.take (longOf b)) (size := (a.length : Int)) (.inr (.inr (.inl (by omega))))
      have hno' : page_Frame ((tagOf b).1, (tagOf b).2.1, (tagOf b).2.2.1, (tagOf b).2.2.2.1, (tagOf b).2.2.2.2.1, ()) (a.take (longOf b)) (a.length : Int) = some ([], [], 1, ()) := hno
      have hw : whole a b = false := decide_eq_false (fun h => h65 h.2.2.2.1)
      simp only [hno', bind_some, show decide ((1 : Int) = 0) = false from rfl, Bool.not_false, cond_t, wz, rz, hw]
      rfl
    have hyes := page_Frame_yes (t := tagOf b) (s := a.take (longOf b)) (size := a.length) hok (tagOf_seq b) h65 (by simp; omega)
    have hyes' : page_Frame ((tagOf b).1, (tagOf b).2.1, (tagOf b).2.2.1, (tagOf b).2.2.2.1, (tagOf b).2.2.2.2.1, ()) (a.take (longOf b)) (a.length : Int) = some (dataOf (a.take (longOf b)) a.length, spareOf (tagOf b) (a.take (longOf b)) a.length, 0, ()) := hyes
    simp only [hyes', bind_some, decide_true, Bool.not_true, cond_f]
    by_cases x1 : dataOf (a.take (longOf b)) a.length = a
    rotate_left
    · have hw : whole a b = false := decide_eq_false (fun h => x1 h.2.2.2.2.1)
      simp only [decide_eq_false x1, Bool.not_false, cond_t, wz, bind_some, rz, hw]
      rfl
    by_cases x2 : spareOf (tagOf b) (a.take (longOf b)) a.length = b
    rotate_left
    · have hw : whole a b = false := decide_eq_false (fun h => x2 h.2.2.2.2.2)
      simp only [decide_eq_true x1, decide_eq_false x2, Bool.not_false, Bool.not_true, cond_f, cond_t, wz, bind_some, rz, hw]
      rfl
    have hw : whole a b = true := decide_eq_true ⟨h32, hl, hok, h65, x1, x2⟩
    simp only [decide_eq_true x1, decide_eq_true x2, Bool.not_true, cond_f, rr, bind_some, wf, rz, hw, if_true]
end Ev
