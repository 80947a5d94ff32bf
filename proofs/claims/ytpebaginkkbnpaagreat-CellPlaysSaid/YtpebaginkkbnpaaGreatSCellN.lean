/- Cells: which may be; new ones; their geometry. -/
import Derived.Test.YtpebaginkkbnpaaGreatSCellP
namespace Ev
open Go (IntKind)

/-- The shape for so many bytes, with eight that check. -/
def shR (s : Int) : Sh × Bool := if 1 ≤ s ∧ s ≤ 1024 then (shF s.toNat 8, true) else (shT 0 0 0 0, false)
theorem shapeOf_eq (s : Int) : weave_ShapeOf s 8 = some ((shR s).1, (shR s).2, ()) := by
  unfold shR
  split
  · rename_i h
    obtain ⟨n, rfl⟩ : ∃ n : Nat, s = (n : Int) := ⟨s.toNat, by omega⟩
    exact shapeOf_ok (by omega) (by omega) (by decide) (by decide)
  · exact shapeOf_no (by omega)
def rawG (g : Geo) : Geo := (g.1, g.2.1, IntKind.wrap .i64 ((shR (IntKind.wrap .i64 (g.2.2.1 + 32))).1.2.2.2.1 - 32), ())
def rawIs (g : Geo) : Bool := (shR (IntKind.wrap .i64 (g.2.2.1 + 32))).2 && geoOK g && geoOK (rawG g)

set_option maxHeartbeats 1000000 in
theorem cell_raw (g : Geo) : cell_Raw g = some (rawG g, (shR (IntKind.wrap .i64 (g.2.2.1 + 32))).1, rawIs g, ()) := by
  obtain ⟨gB, gP, gS, u⟩ := g
  cases u
  unfold cell_Raw cell_Raw.on rawG rawIs
  simp only [List.nil_append, List.cons_append, List.length_cons, List.length_nil]
  rw [show rdI .i64 [Blk.cells [C.int .i64 gB, C.int .i64 gP, C.int .i64 gS] .exact, .cells [.int .i64 0, .int .i64 0, .int .i64 0] .exact, .cells [.int .i64 0, .int .i64 0, .int .i64 0, .int .i64 0] .exact] 0 2 = some gS from rfl]
  simp only [bind_some, shapeOf_eq]
  generalize hsh : shR (IntKind.wrap .i64 (gS + 32)) = sh
  obtain ⟨⟨sW, sD, sP, sR, u⟩, is⟩ := sh
  cases u
  rw [show wr [Blk.cells [C.int .i64 gB, C.int .i64 gP, C.int .i64 gS] .exact, .cells [.int .i64 0, .int .i64 0, .int .i64 0] .exact, .cells [.int .i64 0, .int .i64 0, .int .i64 0, .int .i64 0] .exact, .cells [.int .i64 0, .int .i64 0, .int .i64 0, .int .i64 0] .exact] (0 + 1 + 1 + 1) 0 [.int .i64 sW, .int .i64 sD, .int .i64 sP, .int .i64 sR] =
    some [Blk.cells [C.int .i64 gB, C.int .i64 gP, C.int .i64 gS] .exact, .cells [.int .i64 0, .int .i64 0, .int .i64 0] .exact, .cells [.int .i64 0, .int .i64 0, .int .i64 0, .int .i64 0] .exact, .cells [.int .i64 sW, .int .i64 sD, .int .i64 sP, .int .i64 sR] .exact] from rfl]
  simp only [bind_some]
  generalize hz : ([Blk.cells [C.int .i64 gB, C.int .i64 gP, C.int .i64 gS] .exact, .cells [.int .i64 0, .int .i64 0, .int .i64 0] .exact, .cells [.int .i64 0, .int .i64 0, .int .i64 0, .int .i64 0] .exact, .cells [.int .i64 sW, .int .i64 sD, .int .i64 sP, .int .i64 sR] .exact] : Heap) = Z
  have z0 : rdI .i64 Z 0 0 = some gB := by rw [← hz]; rfl
  have z1 : rdI .i64 Z 0 1 = some gP := by rw [← hz]; rfl
  have z2 : rdI .i64 Z (0 + 1 + 1 + 1) 3 = some sR := by rw [← hz]; rfl
  simp only [z0, z1, z2, bind_some]
  generalize hr : IntKind.wrap .i64 (sR - 32) = rS
  have zl : Z.length = 4 := by rw [← hz]; rfl
  rw [zl]
  have z3 : wr (Z ++ [Blk.cells [C.int .i64 0, .int .i64 0, .int .i64 0] .exact]) 4 0 [.int .i64 gB, .int .i64 gP, .int .i64 rS] = some (Z ++ [.cells [.int .i64 gB, .int .i64 gP, .int .i64 rS] .exact]) := by rw [← hz]; rfl
  rw [z3]
  simp only [bind_some]
  have y1 : @Eq (Option (Int × Int × Int × Unit)) (rd (Z ++ [Blk.cells [C.int .i64 gB, .int .i64 gP, .int .i64 rS] .exact]) (.agg [.int .i64, .int .i64, .int .i64]) 4 0) (some (gB, gP, rS, ())) := by rw [← hz]; rfl
  have y2 : @Eq (Option (Int × Int × Int × Int × Unit)) (rd (Z ++ [Blk.cells [C.int .i64 gB, .int .i64 gP, .int .i64 rS] .exact]) (.agg [.int .i64, .int .i64, .int .i64, .int .i64]) (0 + 1 + 1 + 1) 0) (some (sW, sD, sP, sR, ())) := by rw [← hz]; rfl
  have y3 : @Eq (Option (Int × Int × Int × Unit)) (rd (Z ++ [Blk.cells [C.int .i64 gB, .int .i64 gP, .int .i64 rS] .exact]) (.agg [.int .i64, .int .i64, .int .i64]) 0 0) (some (gB, gP, gS, ())) := by rw [← hz]; rfl
  have y4 : wr (Z ++ [Blk.cells [C.int .i64 gB, .int .i64 gP, .int .i64 rS] .exact]) (0 + 1) 0 [.int .i64 gB, .int .i64 gP, .int .i64 rS] = some [Blk.cells [C.int .i64 gB, C.int .i64 gP, C.int .i64 gS] .exact, .cells [.int .i64 gB, .int .i64 gP, .int .i64 rS] .exact, .cells [.int .i64 0, .int .i64 0, .int .i64 0, .int .i64 0] .exact, .cells [.int .i64 sW, .int .i64 sD, .int .i64 sP, .int .i64 sR] .exact, .cells [.int .i64 gB, .int .i64 gP, .int .i64 rS] .exact] := by rw [← hz]; rfl
  simp only [y1, y2, y3, y4, bind_some]
  clear y1 y2 y3 y4 z0 z1 z2 z3 zl hz
  generalize hz : ([Blk.cells [C.int .i64 gB, C.int .i64 gP, C.int .i64 gS] .exact, .cells [.int .i64 gB, .int .i64 gP, .int .i64 rS] .exact, .cells [.int .i64 0, .int .i64 0, .int .i64 0, .int .i64 0] .exact, .cells [.int .i64 sW, .int .i64 sD, .int .i64 sP, .int .i64 sR] .exact, .cells [.int .i64 gB, .int .i64 gP, .int .i64 rS] .exact] : Heap) = Y
  have y1 : @Eq (Option (Int × Int × Int × Int × Unit)) (rd Y (.agg [.int .i64, .int .i64, .int .i64, .int .i64]) (0 + 1 + 1 + 1) 0) (some (sW, sD, sP, sR, ())) := by rw [← hz]; rfl
  have y2 : wr Y (0 + 1 + 1) 0 [.int .i64 sW, .int .i64 sD, .int .i64 sP, .int .i64 sR] = some [Blk.cells [C.int .i64 gB, C.int .i64 gP, C.int .i64 gS] .exact, .cells [.int .i64 gB, .int .i64 gP, .int .i64 rS] .exact, .cells [.int .i64 sW, .int .i64 sD, .int .i64 sP, .int .i64 sR] .exact, .cells [.int .i64 sW, .int .i64 sD, .int .i64 sP, .int .i64 sR] .exact, .cells [.int .i64 gB, .int .i64 gP, .int .i64 rS] .exact] := by rw [← hz]; rfl
  simp only [y1, y2, bind_some, if_true]
  rw [show @Eq (Option (Int × Int × Int × Unit)) (rd [Blk.cells [C.int .i64 gB, C.int .i64 gP, C.int .i64 gS] .exact, .cells [.int .i64 gB, .int .i64 gP, .int .i64 rS] .exact, .cells [.int .i64 sW, .int .i64 sD, .int .i64 sP, .int .i64 sR] .exact, .cells [.int .i64 sW, .int .i64 sD, .int .i64 sP, .int .i64 sR] .exact, .cells [.int .i64 gB, .int .i64 gP, .int .i64 rS] .exact] (.agg [.int .i64, .int .i64, .int .i64]) (0 + 1) 0) (some (gB, gP, rS, ())) from rfl,
    show @Eq (Option (Int × Int × Int × Int × Unit)) (rd [Blk.cells [C.int .i64 gB, C.int .i64 gP, C.int .i64 gS] .exact, .cells [.int .i64 gB, .int .i64 gP, .int .i64 rS] .exact, .cells [.int .i64 sW, .int .i64 sD, .int .i64 sP, .int .i64 sR] .exact, .cells [.int .i64 sW, .int .i64 sD, .int .i64 sP, .int .i64 sR] .exact, .cells [.int .i64 gB, .int .i64 gP, .int .i64 rS] .exact] (.agg [.int .i64, .int .i64, .int .i64, .int .i64]) (0 + 1 + 1) 0) (some (sW, sD, sP, sR, ())) from rfl]
  simp only [bind_some, nand_Check_eq]
  cases is with
  | false => rfl
  | true =>
    simp only [cond_t, Bool.true_and]
    cases geoOK (gB, gP, gS, ()) with
    | false => rfl
    | true =>
      simp only [cond_t, Bool.true_and]
      have e : rawG (gB, gP, gS, ()) = (gB, gP, rS, ()) := by unfold rawG; simp only [hsh, hr]
      rw [show rawG (gB, gP, gS, PUnit.unit) = (gB, gP, rS, ()) from e]

/-- A clone of noise. -/
theorem clone_noi {H : Heap} {s : Sl} {row : List C} (h : Row H 5 s row) (hl : s.len ≤ 549755813888) : ∃ t H', slices_Clone_api_Noise_api_Noise s H = some ((t, ()), H') ∧ Row H' 5 t row ∧ Keep (fun _ => False) H H' ∧ t.len = s.len ∧ ∀ b o, t.p = some (b, o) → H.length ≤ b := by
  unfold slices_Clone_api_Noise_api_Noise
  cases hp : s.p with
  | none =>
    have hr := h.row
    unfold slRow at hr
    rw [hp] at hr
    cases hr
    exact ⟨⟨none, 0, 0⟩, H, by simp, Row.ni H 5 0, Keep.refl _ _, (h.nil hp).symm, fun _ _ hh => by cases hh⟩
  | some a =>
    have hr := (h.push (Blk.cells [] .exact)).row
    simp only [Option.isNone_some, cond_f, hr, bind_some]
    by_cases h0 : s.len = 0
    · refine ⟨⟨some (H.length, 0), 0, 0⟩, H ++ [.cells [] .exact], ?_, ?_, Keep.push _ _ _, h0.symm, fun b o hh => by cases hh; exact Nat.le_refl _⟩
      · simp [appS, h0]
      · have hl := h.len
        rw [h0, Nat.zero_mul] at hl
        rw [List.eq_nil_of_length_eq_zero hl]
        exact ⟨row_last (by rfl), fun hh => by cases hh⟩
    · have hg : Grown (H ++ [.cells [] .exact]) 5 ⟨some (H.length, 0), 0, 0⟩ [] := ⟨rfl, rfl, fun _ => rfl, fun a ha => by cases ha; exact ⟨rfl, .inr app_last⟩⟩
      obtain ⟨a1, a2⟩ := hg.app (bytes := 40) (by decide) (n := s.len) (new := row) (by omega) h.len (by simp; omega) (by simp; omega)
      refine ⟨_, _, by rw [a1]; rfl, Row.grown a2, ⟨by rw [grownH_length]; simp; omega, fun k hk _ => ?_⟩, by simp, fun b o hh => by cases hh; simp⟩
      rw [grownH_get (by simp; omega) (fun a ha => by cases ha; simp; omega), app_lt hk]

def Ce.new (fails bad : List Int) (seed : Int) (N : List Noi) : Ce := ⟨Nd.new [] fails bad, fun _ => none, 0, 0, false, seed, N⟩

/-- What New lays first. -/
theorem new_head {H : Heap} {g : Geo} {f : Sl × Sl × Sl × Unit} {r : Geo} {sh : Sh} :
    let gC : Blk := .cells [.int .i64 g.1, .int .i64 g.2.1, .int .i64 g.2.2.1] .exact
    let fC : Blk := .cells [.sl 3 f.1, .sl 1 f.2.1, .sl 1 f.2.2.1] .exact
    let rC : Blk := .cells [.int .i64 r.1, .int .i64 r.2.1, .int .i64 r.2.2.1] .exact
    let sC : Blk := .cells [.int .i64 sh.1, .int .i64 sh.2.1, .int .i64 sh.2.2.1, .int .i64 sh.2.2.2.1] .exact
    let z3 : Blk := .cells [.int .i64 0, .int .i64 0, .int .i64 0] .exact
    let z4 : Blk := .cells [.int .i64 0, .int .i64 0, .int .i64 0, .int .i64 0] .exact
    let H2 : Heap := (H ++ [gC]) ++ [fC]
    rd H2 (.agg [.int .i64, .int .i64, .int .i64]) H.length 0 = some g ∧
    wr ((H2 ++ [z3]) ++ [z4]) H2.length 0 [.int .i64 r.1, .int .i64 r.2.1, .int .i64 r.2.2.1] = some ((H2 ++ [rC]) ++ [z4]) ∧
    wr ((H2 ++ [rC]) ++ [z4]) (H2 ++ [z3]).length 0 [.int .i64 sh.1, .int .i64 sh.2.1, .int .i64 sh.2.2.1, .int .i64 sh.2.2.2.1] = some ((H2 ++ [rC]) ++ [sC]) ∧
    ((H2 ++ [rC]) ++ [sC])[H.length]? = some gC ∧ ((H2 ++ [rC]) ++ [sC])[(H ++ [gC]).length]? = some fC ∧ ((H2 ++ [rC]) ++ [sC])[H2.length]? = some rC ∧ ((H2 ++ [rC]) ++ [sC])[(H2 ++ [z3]).length]? = some sC := by
  intro gC fC rC sC z3 z4 H2
  have hg : H2[H.length]? = some gC := by show ((H ++ [gC]) ++ [fC])[H.length]? = _; rw [app_lt (by simp)]; exact app_last
  have hl : (H2 ++ [z3]).length = (H2 ++ [rC]).length := by simp
  refine ⟨rd_geo hg, ?_, ?_, ?_, ?_, ?_, ?_⟩
  · rw [wr_of (cs := [.int .i64 0, .int .i64 0, .int .i64 0]) (bk := .exact) (by rw [app_lt (by simp)]; exact app_last) (by decide) (by simp), set_lt (by simp), set_last]
    rfl
  · rw [hl]
    exact wr_last (by decide) (by simp)
  · have h2 : H.length < H2.length := get_lt hg
    have h3 : (H2 ++ [rC]).length = H2.length + 1 := by simp
    rw [app_lt (by omega), app_lt h2]; exact hg
  · have : (H ++ [gC]).length < H2.length := by show _ < ((H ++ [gC]) ++ [fC]).length; simp
    have h3 : (H2 ++ [rC]).length = H2.length + 1 := by simp
    rw [app_lt (by omega), app_lt this]; exact app_last
  · rw [app_lt (by simp)]; exact app_last
  · rw [hl]; exact app_last

theorem keep_head {H : Heap} (a b c d : Blk) : Keep (fun _ => False) H ((((H ++ [a]) ++ [b]) ++ [c]) ++ [d]) :=
  (((Keep.push _ H a).trans (Keep.push _ _ b)).trans (Keep.push _ _ c)).trans (Keep.push _ _ d)

/-- None. -/
theorem cnew_no {g : Geo} {f : Sl × Sl × Sl × Unit} {ns : Sl} {seed : Int} (H : Heap) (hg : rawIs g = false) : ∃ H', cell_New g f ns seed H = some ((none, 1, ()), H') ∧ Keep (fun _ => False) H H' := by
  obtain ⟨e1, e2, e3, _⟩ := new_head (H := H) (g := g) (f := f) (r := rawG g) (sh := (shR (IntKind.wrap .i64 (g.2.2.1 + 32))).1)
  unfold cell_New
  have hr : cell_Raw (g.1, g.2.1, g.2.2.1, ()) = _ := cell_raw g
  simp only [e1, bind_some, hr, e2, e3, hg, Bool.not_false, cond_t]
  exact ⟨_, rfl, keep_head _ _ _ _⟩

set_option maxHeartbeats 1000000 in
/-- New cells. -/
theorem cnew_yes {B P S : Nat} {f : Sl × Sl × Sl × Unit} {ns : Sl} {seed : Int} {fails bad : List Int} {N : List Noi} (H : Heap) (hg : rawIs ((B : Int), (P : Int), (S : Int), ()) = true) (hcu : Row H 3 f.1 (cutC [])) (hfa : Row H 1 f.2.1 (intC fails)) (hba : Row H 1 f.2.2.1 (intC bad))
    (hns : Row H 5 ns (noiC N)) (hl2 : fails.length ≤ 1000000) (hl3 : bad.length ≤ 1000000) (hl4 : N.length ≤ 1000000) (hsd : 0 ≤ seed ∧ seed ≤ 1000000) (hnb : ∀ n ∈ N, 0 ≤ n.2.2.2.2.1 ∧ n.2.2.2.2.1 < 256) :
    ∃ H' q, cell_New ((B : Int), (P : Int), (S : Int), ()) f ns seed H = some ((some (q.c, 0), 0, ()), H') ∧ CeAt H' q (Ce.new fails bad seed N) ∧ Keep (fun _ => False) H H' ∧ q.a.B = B ∧ q.a.P = P ∧ q.S = S ∧ q.W = shW (S + 32) 8 ∧ ∀ k, q.own k → H.length ≤ k := by
  obtain ⟨e1, e2, e3, g0, g1, g2, g3⟩ := new_head (H := H) (g := ((B : Int), (P : Int), (S : Int), ())) (f := f) (r := rawG ((B : Int), (P : Int), (S : Int), ())) (sh := (shR (IntKind.wrap .i64 ((S : Int) + 32))).1)
  have hg0 := hg
  unfold rawIs at hg
  rw [Bool.and_eq_true, Bool.and_eq_true] at hg
  obtain ⟨⟨i1, i2⟩, i3⟩ := hg
  have hgo := of_decide_eq_true i2
  simp only at hgo
  have hS : 64 ≤ S ∧ S ≤ 256 := by omega
  have hwr : IntKind.wrap .i64 ((S : Int) + 32) = ((S + 32 : Nat) : Int) := by rw [wrap_i64 (by omega) (by omega)]; omega
  have hshR : shR (IntKind.wrap .i64 ((S : Int) + 32)) = (shF (S + 32) 8, true) := by
    unfold shR; rw [hwr, if_pos (by omega), Int.toNat_natCast]
  have hso : ShOK (S + 32) 8 (shW (S + 32) 8) (dat (S + 32) (shW (S + 32) 8)) := ⟨by omega, by omega, by decide, by decide, rfl, rfl⟩
  have hrr := hso.r
  have hw1 := hso.wd
  obtain ⟨Wn, hWn⟩ : ∃ x, x = shW (S + 32) 8 := ⟨_, rfl⟩
  obtain ⟨Dn, hDn⟩ : ∃ x, x = dat (S + 32) (shW (S + 32) 8) := ⟨_, rfl⟩
  have hsF : shF (S + 32) 8 = ((Wn : Int), (Dn : Int), ((8 : Nat) : Int), ((S + 32 + Wn * 8 : Nat) : Int), ()) := by rw [hWn, hDn]; rfl
  rw [← hDn, ← hWn] at hso
  rw [← hWn] at hrr
  have hrG : rawG ((B : Int), (P : Int), (S : Int), ()) = ((B : Int), (P : Int), ((S + Wn * 8 : Nat) : Int), ()) := by
    unfold rawG
    simp only [hshR, hsF]
    rw [wrap_i64 (by omega) (by omega)]
    congr 3
    omega
  rw [hrG] at i3
  simp only [hrG, hshR, hsF] at e1 e2 e3 g0 g1 g2 g3
  have kh := keep_head (H := H) (.cells [.int .i64 (B : Int), .int .i64 (P : Int), .int .i64 (S : Int)] .exact) (.cells [.sl 3 f.1, .sl 1 f.2.1, .sl 1 f.2.2.1] .exact) (.cells [.int .i64 (B : Int), .int .i64 (P : Int), .int .i64 ((S + Wn * 8 : Nat) : Int)] .exact) (.cells [.int .i64 (Wn : Int), .int .i64 (Dn : Int), .int .i64 ((8 : Nat) : Int), .int .i64 ((S + 32 + Wn * 8 : Nat) : Int)] .exact)
  have hraw : cell_Raw ((B : Int), (P : Int), (S : Int), ()) = some (((B : Int), (P : Int), ((S + Wn * 8 : Nat) : Int), ()), ((Wn : Int), (Dn : Int), ((8 : Nat) : Int), ((S + 32 + Wn * 8 : Nat) : Int), ()), true, ()) := by
    rw [cell_raw, hg0, hrG]
    simp only [hshR, hsF]
  unfold cell_New
  simp only [e1, bind_some, hraw, e2, e3, Bool.not_true, cond_f]
  obtain ⟨H8, hH8⟩ : ∃ x, x = ((((H ++ [Blk.cells [.int .i64 (B : Int), .int .i64 (P : Int), .int .i64 (S : Int)] .exact]) ++ [.cells [.sl 3 f.1, .sl 1 f.2.1, .sl 1 f.2.2.1] .exact]) ++ [.cells [.int .i64 (B : Int), .int .i64 (P : Int), .int .i64 ((S + Wn * 8 : Nat) : Int)] .exact]) ++ [.cells [.int .i64 (Wn : Int), .int .i64 (Dn : Int), .int .i64 ((8 : Nat) : Int), .int .i64 ((S + 32 + Wn * 8 : Nat) : Int)] .exact]) := ⟨_, rfl⟩
  simp only [← hH8] at g0 g1 g2 g3 kh ⊢
  have r2 : @Eq (Option (Int × Int × Int × Unit)) (rd H8 (.agg [.int .i64, .int .i64, .int .i64]) ((H ++ [Blk.cells [.int .i64 (B : Int), .int .i64 (P : Int), .int .i64 (S : Int)] .exact]) ++ [Blk.cells [.sl 3 f.1, .sl 1 f.2.1, .sl 1 f.2.2.1] .exact]).length 0) (some ((B : Int), (P : Int), ((S + Wn * 8 : Nat) : Int), ())) := rd_geo g2
  have r1 : @Eq (Option (Sl × Sl × Sl × Unit)) (rd H8 (.agg [.sl 3, .sl 1, .sl 1]) (H ++ [Blk.cells [.int .i64 (B : Int), .int .i64 (P : Int), .int .i64 (S : Int)] .exact]).length 0) (some (f.1, f.2.1, f.2.2.1, ())) := by
    refine rd_agg_of g1 (by simp) ?_
    simp [Tup.un, CT.un]
    rfl
  simp only [r1, r2, bind_some]
  obtain ⟨H9, a, n1, n2, n3, n4, n5, n6, n7⟩ := new_yes (cuts := []) (fails := fails) (bad := bad) (f := (f.1, f.2.1, f.2.2.1, ())) H8 i3 (hcu.keep kh fun _ _ _ => id) (hfa.keep kh fun _ _ _ => id) (hba.keep kh fun _ _ _ => id) (by simp) (by omega) (by omega)
  simp only [n1, bind_some, decide_true, Bool.not_true, cond_f]
  have rg : @Eq (Option (Int × Int × Int × Unit)) (rd H9 (.agg [.int .i64, .int .i64, .int .i64]) H.length 0) (some ((B : Int), (P : Int), (S : Int), ())) := rd_geo (n3.get g0 id)
  have h9s := n3.get g3 id
  have rs : ∀ {G : Heap} {k : Nat}, G[k]? = some (Blk.cells [.int .i64 (Wn : Int), .int .i64 (Dn : Int), .int .i64 ((8 : Nat) : Int), .int .i64 ((S + 32 + Wn * 8 : Nat) : Int)] .exact) → @Eq (Option (Int × Int × Int × Int × Unit)) (rd G (.agg [.int .i64, .int .i64, .int .i64, .int .i64]) k 0) (some ((Wn : Int), (Dn : Int), ((8 : Nat) : Int), ((S + 32 + Wn * 8 : Nat) : Int), ())) := fun h => (sh_at h).1
  simp only [rg, rs h9s, bind_some]
  have kn := (kh.trans n3).trans (Keep.push (fun _ => False) H9 (.mp [] 0))
  have hm := MpAt.new H9
  have hmp : (H9 ++ [Blk.mp [] 0])[H9.length]? = some (.mp [] 0) := app_last
  have k14 : Keep (fun _ => False) H9 (H9 ++ [Blk.mp [] 0]) := Keep.push _ _ _
  have l14 : (H9 ++ [Blk.mp [] 0]).length = H9.length + 1 := by simp
  obtain ⟨G14, hG14⟩ : ∃ x, x = H9 ++ [Blk.mp [] 0] := ⟨_, rfl⟩
  simp only [← hG14] at kn hm hmp k14 l14 ⊢
  have hnl : ns.len = N.length := by
    have := hns.len
    have e : (noiC N).length = N.length * 5 := rowsC_length (cts := noiT) N
    omega
  obtain ⟨tt, H15, c1, c2, c3, c4, c5⟩ := clone_noi (hns.keep kn fun _ _ _ => id) (by omega)
  simp only [c1, bind_some]
  let q : CeA := ⟨H15.length, a, H9.length, tt, S, Wn, Dn⟩
  let t : Ce := Ce.new fails bad seed N
  have hcell : Blk.cells [C.ptr (some (a.c, 0)), .int .i64 (B : Int), .int .i64 (P : Int), .int .i64 (S : Int), .int .i64 (Wn : Int), .int .i64 (Dn : Int), .int .i64 ((8 : Nat) : Int), .int .i64 ((S + 32 + Wn * 8 : Nat) : Int), .sl 5 tt, .mp (some H9.length), .int .i64 0, .int .i64 seed, .int .i64 0, .bool false] .exact = Blk.cells (q.cells t) .exact := by
    unfold CeA.cells
    rw [show q.a.B = B from n4, show q.a.P = P from n5]
    rfl
  rw [hcell]
  have k16 : Keep (fun _ => False) H15 (H15 ++ [Blk.cells (q.cells t) .exact]) := Keep.push _ _ _
  have hl16 : (H15 ++ [Blk.cells (q.cells t) .exact])[H15.length]? = some (.cells (q.cells t) .exact) := app_last
  obtain ⟨G, hG⟩ : ∃ x, x = H15 ++ [Blk.cells (q.cells t) .exact] := ⟨_, rfl⟩
  simp only [← hG] at k16 hl16 ⊢
  have k9 : Keep (fun _ => False) H9 G := (k14.trans c3).trans k16
  have rg2 : @Eq (Option (Int × Int × Int × Unit)) (rd G (.agg [.int .i64, .int .i64, .int .i64]) H.length 0) (some ((B : Int), (P : Int), (S : Int), ())) := rd_geo (k9.get (n3.get g0 id) id)
  have hmp2 : G[H9.length]? = some (.mp [] 0) := (c3.trans k16).get hmp id
  simp only [rg2, rs (k9.get h9s id), bind_some, if_true, hmp2]
  have own9 : ∀ k, a.own k → k < H9.length := fun k hk => n2.own_lt hk
  have l15 : G14.length ≤ H15.length := c3.len
  have l8 := kh.len
  have l9 := n3.len
  refine ⟨G, q, rfl, ?_, kn.trans (c3.trans k16), n4, n5, rfl, hWn, ?_⟩
  · refine ⟨hl16, n2.keep k9 fun _ _ => id, hm.keep (c3.trans k16) id, c2.keep k16 fun _ _ _ => id, ?_, ?_, ?_, ?_, (fun k s hs => by cases hs), hso, ?_, ?_, hsd, hnb⟩
    · intro hk; have := own9 _ hk; show False; have : H15.length < H9.length := this; omega
    · intro hk; have : H9.length < H9.length := own9 _ hk; omega
    · show H15.length ≠ H9.length; omega
    · intro k o hp hk
      have h1 := c5 k o hp
      have h2 := c2.lt hp
      rcases hk with hk | hk | hk
      · have hk : k = H15.length := hk; omega
      · have hk : k = H9.length := hk; omega
      · have := own9 _ (.inl hk); omega
    · show a.S + 32 = S + 32 + Wn * 8; omega
    · refine ⟨?_, ?_, hl4⟩
      · show a.B ≤ 1000; omega
      · show a.P ≤ 1000; omega
  · intro k hk
    rcases hk with hk | hk | hk | ⟨o, hk⟩
    · have hk : k = H15.length := hk; omega
    · have hk : k = H9.length := hk; omega
    · have := n7 k hk; omega
    · have := c5 k o hk; omega

end Ev
