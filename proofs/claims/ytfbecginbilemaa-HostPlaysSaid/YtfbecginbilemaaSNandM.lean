/- A new chip as a whole; Arm. -/
import Derived.Test.YtfbecginbilemaaSNandN
namespace Ev
open Go (IntKind)

theorem new_yes {B P S : Nat} {f : Sl × Sl × Sl × Unit} {cuts : List Cut} {fails bad : List Int} (H : Heap) (hg : geoOK ((B : Int), (P : Int), (S : Int), ()) = true) (hcu : Row H 3 f.1 (cutC cuts)) (hfa : Row H 1 f.2.1 (intC fails)) (hba : Row H 1 f.2.2.1 (intC bad))
    (hl1 : cuts.length ≤ 1099511627776) (hl2 : fails.length ≤ 1099511627776) (hl3 : bad.length ≤ 1099511627776) :
    ∃ H' a, nand_New ((B : Int), (P : Int), (S : Int), ()) f H = some ((some (a.c, 0), 0, ()), H') ∧ NdAt H' a (Nd.new cuts fails bad) ∧ Keep (fun _ => False) H H' ∧ a.B = B ∧ a.P = P ∧ a.S = S ∧ ∀ k, a.own k → H.length ≤ k := by
  have hg' := of_decide_eq_true hg
  simp only at hg'
  unfold nand_New
  -- locals
  let g : Geo := ((B : Int), (P : Int), (S : Int), ())
  let gB : Blk := .cells [.int .i64 (B : Int), .int .i64 (P : Int), .int .i64 (S : Int)] .exact
  let fB : Blk := .cells [.sl 3 f.1, .sl 1 f.2.1, .sl 1 f.2.2.1] .exact
  let H1 : Heap := H ++ [gB]
  let H2 : Heap := H1 ++ [fB]
  let H3 : Heap := H2 ++ [.cells (arrC B fun _ => blk0) .exact]
  have e1 : H1.length = H.length + 1 := by simp [H1]
  have e2 : H2.length = H.length + 2 := by simp [H2, H1]
  have e3 : H3.length = H.length + 3 := by simp [H3, H2, H1]
  have k3 : Keep (fun _ => False) H H3 := ((Keep.push _ _ _).trans (Keep.push _ _ _)).trans (Keep.push _ _ _)
  have g2 : H2[H.length]? = some gB := by rw [app_lt (by omega)]; exact app_last
  have g3 : H3[H.length]? = some gB := by rw [app_lt (by omega)]; exact g2
  have f3 : H3[H1.length]? = some fB := by rw [app_lt (by omega)]; exact app_last
  have b3 : H3[H2.length]? = some (.cells (arrC B fun _ => blk0) .exact) := app_last
  have hmk : mkS H2 40 [.sl 1 Sl.nil, .int .i64 0, .bool false, .bool false] (B : Int) (B : Int) = some (⟨some (H2.length, 0), B, B⟩, H3) := mkS_of (by omega) (by omega)
  have nof : ∀ k, (fun _ : Nat => False) k → False := fun _ => id
  have hcu3 := hcu.keep k3 fun _ _ _ => id
  have hcl : f.1.len = cuts.length := by have := hcu.len; rw [cutC_length] at this; omega
  have hfl : f.2.1.len = fails.length := hfa.int_len
  obtain ⟨t1, H4, c1, c2, c3, c4, c5⟩ := clone_cut hcu3 (by omega)
  have k4 := k3.trans c3
  have hfa4 := hfa.keep k4 fun _ _ _ => id
  obtain ⟨t2, H5, d1, d2, d3, d4, d5⟩ := clone_int hfa4 (by omega)
  have k5 := k4.trans d3
  have g4 := c3.get g3 id
  have f4 := c3.get f3 id
  have b4 := c3.get b3 id
  have g5 := d3.get g4 id
  have f5 := d3.get f4 id
  have b5 := d3.get b4 id
  have h43 := c3.len
  have h54 := d3.len
  let cB : Blk := .cells [.int .i64 (B : Int), .int .i64 (P : Int), .int .i64 (S : Int), .sl 4 ⟨some (H2.length, 0), B, B⟩, .sl 3 t1, .sl 1 t2, .int .i64 0, .bool false] .exact
  let H6 : Heap := H5 ++ [cB]
  have e6 : H6.length = H5.length + 1 := by simp [H6]
  have g6 : H6[H.length]? = some gB := by rw [app_lt (get_lt g5)]; exact g5
  have f6 : H6[H1.length]? = some fB := by rw [app_lt (get_lt f5)]; exact f5
  have b6 : H6[H2.length]? = some (.cells (arrC B fun _ => blk0) .exact) := by rw [app_lt (get_lt b5)]; exact b5
  have cc6 : H6[H5.length]? = some cB := app_last
  have k6 := k5.trans (Keep.push _ _ cB)
  have hba6 := hba.keep k6 fun _ _ _ => id
  obtain ⟨G, l1, l2, l3, l4⟩ := new_loop (H := H) (H1 := H1) (r15 := ((t2, ()), H5)) (G0 := H6) (B := B) (P := P) (S := S) (bb := H2.length) (fb := f.2.2.1) (bad := bad) (by omega) (by omega) cc6 rfl ⟨_, _, g6, rfl⟩ ⟨_, _, f6, rfl⟩ hba6 (by omega) b6
    (by show H5.length ≠ H2.length; omega) (by omega) (by omega) (fun k o hp e => by have := hba.lt hp; omega)
  have r2 := rd_geo (H := H2) (g := g) (bk := .exact) g2
  have r4 := rd_geo (H := H4) (g := g) (bk := .exact) g4
  have r6 := rd_geo (H := H6) (g := g) (bk := .exact) g6
  have i2 : rdI .i64 H2 H.length 0 = some (B : Int) := rdI_of g2 rfl
  have i4 : rdI .i64 H4 H.length 0 = some (B : Int) := rdI_of g4 rfl
  have i6 : rdI .i64 H6 H.length 0 = some (B : Int) := rdI_of g6 rfl
  have s3 : rdSl 3 H3 H1.length 0 = some f.1 := rdSl_of f3 rfl
  have s3' : rdSl 1 H3 H1.length 1 = some f.2.1 := rdSl_of f3 rfl
  have s4 : rdSl 1 H4 H1.length 1 = some f.2.1 := rdSl_of f4 rfl
  have s6 : rdSl 4 H6 H5.length 3 = some ⟨some (H2.length, 0), B, B⟩ := rdSl_of cc6 rfl
  have chk : nand_Check (g.1, g.2.1, g.2.2.1, ()) = some (true, ()) := by rw [show nand_Check (g.1, g.2.1, g.2.2.1, ()) = some (geoOK g, ()) from nand_Check_eq g]; rw [hg]
  have st4 : H4[H2.length]? = some (.cells (rep (Int.toNat (B : Int)) [.sl 1 Sl.nil, .int .i64 0, .bool false, .bool false]) .exact) := by rw [b4, Int.toNat_natCast, rep_arr]; rfl
  have st6 : H6[H2.length]? = some (.cells (rep (Int.toNat (B : Int)) [.sl 1 Sl.nil, .int .i64 0, .bool false, .bool false]) .exact) := by rw [b6, Int.toNat_natCast, rep_arr]; rfl
  refine ⟨G, ⟨H5.length, H2.length, fun i => H6.length + i, B, P, S, t1, t2⟩, ?_, ?_, ?_, rfl, rfl, rfl, ?_⟩
  · have q1 : (H ++ [Blk.cells [.int .i64 (B : Int), .int .i64 (P : Int), .int .i64 (S : Int)] .exact]) = H1 := rfl
    simp only [q1]
    have q2 : (H1 ++ [Blk.cells [.sl 3 f.1, .sl 1 f.2.1, .sl 1 f.2.2.1] .exact]) = H2 := rfl
    simp only [q2, r2, bind_some, chk, Bool.not_true, cond_f, i2, hmk, s3, s3', c1, r4, if_true, i4, st4, s4, d1]
    have q3 : (H5 ++ [Blk.cells [.int .i64 g.1, .int .i64 g.2.1, .int .i64 g.2.2.1, .sl 4 ⟨some (H2.length, 0), B, B⟩, .sl 3 t1, .sl 1 t2, .int .i64 0, .bool false] .exact]) = H6 := rfl
    simp only [q3, r6, bind_some, if_true, i6, st6, s6, l1]
  · have hk := l4
    refine { cell := ?_, blks := ?_, pgs := fun i hi => ?_, cuts := ?_, fails := ?_, cb := ?_, cp := fun i hi => ?_, bp := fun i hi => ?_, pp := fun i j _ _ e => ?_, csn := fun k o hp hf => ?_, fsn := fun k o hp hf => ?_, sz := ⟨?_, ?_, ?_⟩, ln := ⟨hl1, hl2⟩ }
    · exact hk.get cc6 (by show H5.length ≠ H2.length; omega)
    · exact l2
    · exact l3 i hi
    · exact ((c2.keep d3 fun _ _ _ => id).push cB).keep hk fun k o hp e => by have := c5 k o hp; omega
    · exact (d2.push cB).keep hk fun k o hp e => by have := d5 k o hp; omega
    · show H5.length ≠ H2.length; omega
    · show H5.length ≠ H6.length + i; omega
    · show H2.length ≠ H6.length + i; omega
    · have e : H6.length + i = H6.length + j := e
      omega
    · have h1 := c5 k o hp
      have h2 := (c2.lt hp)
      rcases hf with e | e | ⟨i, _, e⟩
      · have e : k = H5.length := e
        omega
      · have e : k = H2.length := e
        omega
      · have e : k = H6.length + i := e
        omega
    · have h1 := d5 k o hp
      have h2 := (d2.lt hp)
      rcases hf with e | e | ⟨i, _, e⟩
      · have e : k = H5.length := e
        omega
      · have e : k = H2.length := e
        omega
      · have e : k = H6.length + i := e
        omega
    · show B ≤ 4294967296; omega
    · show P ≤ 4294967296; omega
    · show S ≤ 4294967296; omega
  · refine ⟨Nat.le_trans k6.len l4.len, fun k hk _ => ?_⟩
    rw [l4.same k (Nat.lt_of_lt_of_le hk k6.len) (by show ¬ k = H2.length; omega)]
    exact k6.same k hk id
  · intro k hk
    rcases hk with (e | e | ⟨i, _, e⟩) | ⟨o, ho⟩ | ⟨o, ho⟩
    · have e : k = H5.length := e
      omega
    · have e : k = H2.length := e
      omega
    · have e : k = H6.length + i := e
      omega
    · have := c5 k o ho; omega
    · have := d5 k o ho; omega

end Ev
