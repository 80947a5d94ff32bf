/- CellNone: no cells tell that; which may be, and the chip beneath. -/
import Derived.Test.YtpebaginkkbnpaaGreatSLaw30b
namespace Ev
open Go (IntKind)

theorem health_nil (H : Heap) : cell_Cells_Health none H = some (((0, false, ()), ()), H ++ [.cells [.int .i64 0, .bool false] .exact]) := by
  unfold cell_Cells_Health
  have h1 : wr (H ++ [Blk.cells [.int .i64 0, .bool false] .exact]) H.length 0 [.int .i64 0, .bool false] = some (H ++ [.cells [.int .i64 0, .bool false] .exact]) := wr_last (by decide) (by simp)
  have h2 : @Eq (Option (Int × Bool × Unit)) (rd (H ++ [Blk.cells [.int .i64 0, .bool false] .exact]) (.agg [.int .i64, .bool]) H.length 0) (some (0, false, ())) := by
    refine rd_agg_of app_last (by simp) ?_
    simp [Tup.un, CT.un]
    rfl
  simp only [Option.isNone_none, cond_t, h1, bind_some, h2]
theorem cgeometry_nil (H : Heap) : cell_Cells_Geometry none H = some (((0, 0, 0, ()), ()), H ++ [.cells [.int .i64 0, .int .i64 0, .int .i64 0] .exact]) := by
  unfold cell_Cells_Geometry
  have h1 : wr (H ++ [Blk.cells [.int .i64 0, .int .i64 0, .int .i64 0] .exact]) H.length 0 [.int .i64 0, .int .i64 0, .int .i64 0] = some (H ++ [.cells [.int .i64 0, .int .i64 0, .int .i64 0] .exact]) := wr_last (by decide) (by simp)
  have h2 : @Eq (Option (Int × Int × Int × Unit)) (rd (H ++ [Blk.cells [.int .i64 0, .int .i64 0, .int .i64 0] .exact]) (.agg [.int .i64, .int .i64, .int .i64]) H.length 0) (some (0, 0, 0, ())) := rd_geo (g := (0, 0, 0, ())) app_last
  simp only [Option.isNone_none, cond_t, h1, bind_some, h2]
theorem renew_nil (a b : Int) (H : Heap) : cell_Cells_Renew none a b H = some ((0, 1, ()), H) := rfl
theorem chip_nil (H : Heap) : cell_Cells_Chip none H = some ((none, ()), H) := rfl
theorem reads_nil (H : Heap) : cell_Cells_Reads none H = some ((0, ()), H) := rfl

theorem sh_of_geo {g : Geo} (h : geoOK g = true) : (shR (IntKind.wrap .i64 (g.2.2.1 + 32))).2 = true := by
  have := of_decide_eq_true h
  rw [wrap_i64 (by omega) (by omega)]
  unfold shR
  rw [if_pos (by omega)]

set_option maxHeartbeats 2000000 in
theorem CellNone_true (x0 : Geo) (x1 x2 : Int) (_ : ∀ c ∈ Tup.mk [.int .i64, .int .i64, .int .i64] x0, wfC c) (_ : wfC (.int .i64 x1)) (_ : wfC (.int .i64 x2)) : law30_CellNone x0 x1 x2 = some (true, ()) := by
  obtain ⟨gB, gP, gS, u⟩ := x0
  cases u
  unfold law30_CellNone law30_CellNone.on
  simp only [List.nil_append, List.cons_append, List.length_cons, List.length_nil, read_nil, renew_nil, bind_some]
  have hraw := cell_raw (gB, gP, gS, ())
  obtain ⟨rG, hrG⟩ : ∃ x, x = rawG (gB, gP, gS, ()) := ⟨_, rfl⟩
  obtain ⟨sh, hsh⟩ : ∃ x, x = (shR (IntKind.wrap .i64 (gS + 32))).1 := ⟨_, rfl⟩
  obtain ⟨is, his⟩ : ∃ x, x = rawIs (gB, gP, gS, ()) := ⟨_, rfl⟩
  have hrGe : rG = (gB, gP, IntKind.wrap .i64 (sh.2.2.2.1 - 32), ()) := by rw [hrG, hsh]; rfl
  simp only [← hrG, ← hsh, ← his] at hraw
  have z0 : @Eq (Option (Int × Int × Int × Unit)) (rd [Blk.cells [.int .i64 gB, .int .i64 gP, .int .i64 gS] .exact] (.agg [.int .i64, .int .i64, .int .i64]) 0 0) (some (gB, gP, gS, ())) := rfl
  have z1 : wr [Blk.cells [.int .i64 gB, .int .i64 gP, .int .i64 gS] .exact, .cells [.int .i64 0, .int .i64 0, .int .i64 0] .exact, .cells [.int .i64 0, .int .i64 0, .int .i64 0, .int .i64 0] .exact] (0 + 1) 0 [.int .i64 rG.1, .int .i64 rG.2.1, .int .i64 rG.2.2.1] =
    some [Blk.cells [.int .i64 gB, .int .i64 gP, .int .i64 gS] .exact, .cells [.int .i64 rG.1, .int .i64 rG.2.1, .int .i64 rG.2.2.1] .exact, .cells [.int .i64 0, .int .i64 0, .int .i64 0, .int .i64 0] .exact] := rfl
  have z2 : wr [Blk.cells [.int .i64 gB, .int .i64 gP, .int .i64 gS] .exact, .cells [.int .i64 rG.1, .int .i64 rG.2.1, .int .i64 rG.2.2.1] .exact, .cells [.int .i64 0, .int .i64 0, .int .i64 0, .int .i64 0] .exact] (0 + 1 + 1) 0 [.int .i64 sh.1, .int .i64 sh.2.1, .int .i64 sh.2.2.1, .int .i64 sh.2.2.2.1] =
    some [Blk.cells [.int .i64 gB, .int .i64 gP, .int .i64 gS] .exact, .cells [.int .i64 rG.1, .int .i64 rG.2.1, .int .i64 rG.2.2.1] .exact, .cells [.int .i64 sh.1, .int .i64 sh.2.1, .int .i64 sh.2.2.1, .int .i64 sh.2.2.2.1] .exact] := rfl
  simp only [z0, bind_some, hraw, z1, z2]
  obtain ⟨Z, hZ⟩ : ∃ Z : Heap, Z = [Blk.cells [.int .i64 gB, .int .i64 gP, .int .i64 gS] .exact, .cells [.int .i64 rG.1, .int .i64 rG.2.1, .int .i64 rG.2.2.1] .exact, .cells [.int .i64 sh.1, .int .i64 sh.2.1, .int .i64 sh.2.2.1, .int .i64 sh.2.2.2.1] .exact] := ⟨_, rfl⟩
  rw [← hZ]
  have g0 : Z[0]? = some (Blk.cells [.int .i64 gB, .int .i64 gP, .int .i64 gS] .exact) := by rw [hZ]; rfl
  have g1 : Z[0 + 1]? = some (Blk.cells [.int .i64 rG.1, .int .i64 rG.2.1, .int .i64 rG.2.2.1] .exact) := by rw [hZ]; rfl
  have g2 : Z[0 + 1 + 1]? = some (Blk.cells [.int .i64 sh.1, .int .i64 sh.2.1, .int .i64 sh.2.2.1, .int .i64 sh.2.2.2.1] .exact) := by rw [hZ]; rfl
  have rg : ∀ {G : Heap}, Keep (fun _ => False) Z G → @Eq (Option (Int × Int × Int × Unit)) (rd G (.agg [.int .i64, .int .i64, .int .i64]) 0 0) (some (gB, gP, gS, ())) := fun k => rd_geo (g := (gB, gP, gS, ())) (k.get g0 id)
  have rr : ∀ {G : Heap}, Keep (fun _ => False) Z G → @Eq (Option (Int × Int × Int × Unit)) (rd G (.agg [.int .i64, .int .i64, .int .i64]) (0 + 1) 0) (some rG) := fun k => rd_geo (g := rG) (k.get g1 id)
  have r3 : ∀ {G : Heap}, Keep (fun _ => False) Z G → rdI .i64 G (0 + 1 + 1) 3 = some sh.2.2.2.1 := fun k => rdI_of (k.get g2 id) rfl
  have r0 : ∀ {G : Heap}, Keep (fun _ => False) Z G → rdI .i64 G 0 0 = some gB ∧ rdI .i64 G 0 1 = some gP := fun k => ⟨rdI_of (k.get g0 id) rfl, rdI_of (k.get g0 id) rfl⟩
  have r12 : ∀ {G : Heap}, Keep (fun _ => False) Z G → rdI .i64 G (0 + 1) 2 = some rG.2.2.1 := fun k => rdI_of (k.get g1 id) rfl
  simp only [rg (Keep.refl _ Z), bind_some]
  have hwant : is = (geoOK (gB, gP, gS, ()) && geoOK rG) := by
    rw [his, hrG]
    unfold rawIs
    cases hg : geoOK (gB, gP, gS, ()) with
    | false => simp
    | true => rw [sh_of_geo hg]; rfl
  -- which may be
  have hp18 : ∀ {G : Heap}, Keep (fun _ => False) Z G → (Option.bind (α := (Int × Int × Int × Unit)) (rd G (.agg [.int .i64, .int .i64, .int .i64]) 0 0) fun (v12 : (Int × Int × Int × Unit)) =>
      (nand_Check (v12.1, v12.2.1, v12.2.2.1, ())).bind fun (r13 : (Bool × Unit)) =>
      cond r13.1 (
      (rdI .i64 G 0 0).bind fun (v14 : Int) =>
      (rdI .i64 G 0 1).bind fun (v15 : Int) =>
      (rdI .i64 G (0 + 1 + 1) 3).bind fun (v16 : Int) =>
      (nand_Check (v14, v15, (IntKind.wrap .i64 (v16 - 32)), ())).bind fun (r17 : (Bool × Unit)) =>
      some ((r17.1, ()), G)) (
      some ((false, ()), G)) : Option ((Bool × Unit) × Heap)) = some ((is, ()), G) := by
    intro G k
    simp only [rg k, bind_some, nand_Check_eq, (r0 k).1, (r0 k).2, r3 k, hwant, hrGe]
    cases geoOK (gB, gP, gS, ()) <;> rfl
  cases is with
  | false =>
    obtain ⟨H1, n1, n2⟩ := cnew_no (g := (gB, gP, gS, ())) (f := (⟨none, 0, 0⟩, ⟨none, 0, 0⟩, ⟨none, 0, 0⟩, ())) (ns := ⟨none, 0, 0⟩) (seed := 0) Z his.symm
    simp only [n1, bind_some]
    rw [hp18 n2]
    simp only [bind_some, awake30, cond_t, decide_true, program_nil, erase_nil, health_nil, Bool.and_true, beq_self_eq_true, cgeometry_nil, chip_nil, Option.isNone_none, reads_nil]
    rfl
  | true =>
    have hgo : geoOK (gB, gP, gS, ()) = true := by
      cases hg : geoOK (gB, gP, gS, ()) with
      | true => rfl
      | false => rw [hg] at hwant; simp at hwant
    have hgg := of_decide_eq_true hgo
    simp only at hgg
    obtain ⟨B, rfl⟩ : ∃ B : Nat, gB = (B : Int) := ⟨gB.toNat, by omega⟩
    obtain ⟨P, rfl⟩ : ∃ P : Nat, gP = (P : Int) := ⟨gP.toNat, by omega⟩
    obtain ⟨S, rfl⟩ : ∃ S : Nat, gS = (S : Int) := ⟨gS.toNat, by omega⟩
    obtain ⟨H1, q, n1, n2, n3, n4, n5, n6, n7, _⟩ := cnew_yes (B := B) (P := P) (S := S) (f := (⟨none, 0, 0⟩, ⟨none, 0, 0⟩, ⟨none, 0, 0⟩, ())) (ns := ⟨none, 0, 0⟩) (seed := 0) (fails := []) (bad := []) (N := []) Z his.symm (Row.ni _ _ _) (Row.ni _ _ _) (Row.ni _ _ _) (Row.ni _ _ _) (by decide) (by decide) (by decide) (by decide) (fun n hn => by cases hn)
    have haS := n2.aS
    have hrS : rG.2.2.1 = (q.a.S : Int) := by
      rw [hrGe, hsh]
      have hwr : IntKind.wrap .i64 ((S : Int) + 32) = ((S + 32 : Nat) : Int) := by rw [wrap_i64 (by omega) (by omega)]; omega
      have hshR : shR (IntKind.wrap .i64 ((S : Int) + 32)) = (shF (S + 32) 8, true) := by
        unfold shR; rw [hwr, if_pos (by omega), Int.toNat_natCast]
      rw [hshR]
      have hw : (shF (S + 32) 8).2.2.2.1 = ((S + 32 + q.W * 8 : Nat) : Int) := by rw [n7]; rfl
      have hR : q.R = S + 32 + q.W * 8 := by unfold CeA.R; rw [n6]
      have hRl := n2.R_le
      simp only [hw]
      rw [wrap_i64 (by omega) (by omega)]
      omega
    have hrB : rG.1 = (B : Int) ∧ rG.2.1 = (P : Int) := by rw [hrGe]; exact ⟨rfl, rfl⟩
    simp only [n1, bind_some]
    rw [hp18 n3]
    simp only [bind_some, awake30, cond_t, decide_true, program_nil, erase_nil, health_nil, Bool.and_true, beq_self_eq_true, cgeometry_nil, chip_nil, Option.isNone_none, reads_nil, Option.isNone_some, Bool.not_false, Bool.not_true, cond_f]
    have c1 := n2.push (.cells [.int .i64 0, .bool false] .exact)
    have c2 := c1.push (.cells [.int .i64 0, .int .i64 0, .int .i64 0] .exact)
    have k2 := (n3.trans (Keep.push _ _ (.cells [.int .i64 0, .bool false] .exact))).trans (Keep.push _ _ (.cells [.int .i64 0, .int .i64 0, .int .i64 0] .exact))
    obtain ⟨G, hG⟩ : ∃ G, G = (H1 ++ [Blk.cells [.int .i64 0, .bool false] .exact]) ++ [.cells [.int .i64 0, .int .i64 0, .int .i64 0] .exact] := ⟨_, rfl⟩
    rw [← hG] at c2 k2
    simp only [← hG, r12 k2, r3 k2, bind_some, hrGe, decide_true, cond_t, rg k2]
    obtain ⟨G2, q1, q2, q3⟩ := ce_geometry c2
    have k3 := k2.trans q3
    rw [n4, n5, n6] at q1
    simp only [q1, bind_some, decide_true, Bool.and_true, cond_t, rr k3, rg k3, if_true, ce_chip q2]
    obtain ⟨G3, s1, s2, s3⟩ := nand_geometry q2.nd
    have k4 := k3.trans s3
    rw [n4, n5] at s1
    simp only [s1, bind_some, rr k4, if_true, hrB.1, hrB.2, hrS, decide_true, Bool.and_true]
end Ev
