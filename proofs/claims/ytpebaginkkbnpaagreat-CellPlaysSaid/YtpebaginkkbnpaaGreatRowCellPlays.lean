/- The law CellPlays: for every input it tells true, and changes nothing that came in. No condition beyond the given statement. -/
import Derived.Test.YtpebaginkkbnpaaGreatRows
import Derived.Test.YtpebaginkkbnpaaGreatT30
import Derived.Test.YtpebaginkkbnpaaGreatEvOpen2
import Derived.Test.YtpebaginkkbnpaaGreatSLaw30t
import Derived.WalkKit
import Derived.ProofKit
import Derived.OpenShut
import Derived.ShutString
import Derived.ChangeOld
import Derived.Below
import Derived.SizedLaws
namespace Go.Proofs.YtpebaginkkbnpaaGreat.cellPlays
open Go.ChangeShapes Go.WideShapes Go.ChangeAt Go.RowKit
open Go.ChangeMaps (open_string shut_string)
set_option linter.unusedVariables false
theorem own : ownKnob Tryz.prog.godebug = none := by kernel_rfl
theorem laidOut : laidOutB Tryz.prog = true := by kernel_rfl
set_option maxRecDepth 100000 in
theorem lifted (os : Os) (started : os.Started) (H : Type) (enc : TypeId × Value → H) :
    ReturnsInHanded {} Tryz.checked os 5 .any (Rows.cellPlaysSpec.pre6 enc Tryz.prog Tryz.f5 Rows.cellPlaysRow.domain false) (Rows.cellPlaysSpec.post enc Tryz.prog Tryz.f5 false true false false) := by
  refine returnsInHanded_of_change_sized (C := Tryz.checked) own started (by kernel_rfl) Tryz.func5
    (ChangeSpec.witness6 (enc := enc) (C := Tryz.checked) false ⟨#[], #[.agg #[.slice none 0 0, .slice none 0 0, .slice none 0 0], .slice none 0 0, .slice none 0 0], []⟩ 8 (by kernel_rfl) (by kernel_rfl) (by kernel_rfl) (by kernel_rfl)) ?_
  intro W base args ds gs before hval0 hW hcnd hsz0 _
  have hsz : (DataW.weightsEach Tryz.prog (Tryz.f5.params.toList ++ Rows.cellPlaysSpec.plain.varTypes Tryz.prog) (ds ++ gs)).all (· ≤ reachBytes) = true := hsz0
  have hval : ∀ (j : Nat) t v, Tryz.f5.params[j]? = some t → args[j]? = some v → Value.okWide Tryz.prog W .any base t v := hval0
  have hW' := hW
  obtain ⟨p, q, hA0, hV, rfl, hfz, hnd⟩ := hW
  have hA : DataW.TrodAll enc Tryz.prog W 0 (fun _ => true) true Tryz.f5.params.toList args.toList ds p := hA0
  rw [Tryz.params5] at hA hval hsz
  obtain ⟨v0, vs0, d0, ds0, p0, q0, hargs, rfl, rfl, h0, r0⟩ := trodAll_cons hA
  obtain ⟨v1, vs1, d1, ds1, p1, q1, rfl, rfl, rfl, h1, r1⟩ := trodAll_cons r0
  obtain ⟨v2, vs2, d2, ds2, p2, q2, rfl, rfl, rfl, h2, r2⟩ := trodAll_cons r1
  obtain ⟨rfl, rfl, rfl⟩ := trodAll_nil r2
  obtain rfl : args = #[v0, v1, v2] := by cases args; simp_all
  obtain ⟨rfl, rfl⟩ := trodVars_none hV
  have k0 := h0
  obtain ⟨ρ0, A0, B0, H0, a0, le0, R0, ro0, c0, wa0, wb0, wc0⟩ := Ev.open_sl3 (d := 8) (s1 := 32) (s2 := 33) (s3 := 33) Tryz.underlying35 ⟨rfl, rfl, rfl, rfl, rfl, rfl⟩ (by kernel_rfl) (by kernel_rfl) (by kernel_rfl) (by kernel_rfl) (by kernel_rfl) Tryz.underlying32 Tryz.underlying33 Tryz.underlying33 (show Ev.flatCts Tryz.prog 8 83 = some [.int .i64, .int .i64, .int .u8] from by kernel_rfl) (show Ev.flatCts Tryz.prog 8 3 = some [.int .i64] from by kernel_rfl) (show Ev.flatCts Tryz.prog 8 3 = some [.int .i64] from by kernel_rfl)  (by decide) (by decide) (by decide) (hval 0 35 v0 rfl rfl) h0 (Ev.R.empty W) (fun _ h => absurd h List.not_mem_nil)
  have k1 := h1
  obtain ⟨ρ1, H1, s1, le1, R1, ro1, c1, w1⟩ := Ev.open_flats (d := 8) Tryz.underlying22 (show Ev.flatCts Tryz.prog 8 24 = some [.int .i64, .int .i64, .int .i64, .int .i64, .int .u8] from by kernel_rfl) (by decide) (hval 1 22 v1 rfl rfl) h1 R0 ro0
  have k2 := h2
  obtain ⟨ρ2, H2, s2, le2, R2, ro2, c2, w2⟩ := Ev.open_flats (d := 8) Tryz.underlying50 (show Ev.flatCts Tryz.prog 8 56 = some [.int .i64, .int .i64, .int .i64, .str] from by kernel_rfl) (by decide) (hval 2 50 v2 rfl rfl) h2 R1 ro1
  clear hA0 hval0 hsz0 hsz
  obtain ⟨H', hl⟩ := Ev.CellPlays_true a0 s1 s2 wa0 wb0 wc0 w1 w2
  refine Calls.mono (Ev.law30_CellPlays.tied.sound ρ2 H2 W (a0, (s1, (s2, ()))) (true, ()) H' [v0, v1, v2] R2 ⟨((c0.mono le1).mono le2), ⟨(c1.mono le2), ⟨c2, trivial⟩⟩⟩ hl) ?_
  rintro e W' ⟨v, ρ', rfl, hv, hR', hx⟩
  obtain rfl : v = .bool true := hv
  have bel := Ev.below_of ro2 hx
  exact ⟨_, rfl, _, _, _, [], _, [], hW', trodAll_mk1 (shut_bool Tryz.underlying4 _), (trodAll_cons_mk (Ev.trod_back laidOut (by kernel_rfl) (of_decide_eq_true (by kernel_rfl)) k0 bel) (trodAll_cons_mk (Ev.trod_back laidOut (by kernel_rfl) (of_decide_eq_true (by kernel_rfl)) k1 bel) (trodAll_cons_mk (Ev.trod_back laidOut (by kernel_rfl) (of_decide_eq_true (by kernel_rfl)) k2 bel) trodAll_mk0))), rfl, bel.frame _, fun h => by cases h⟩
theorem over : Rows.cellPlaysRow.holds Tryz.pinned (OpenSpec.ofChange Rows.cellPlaysSpec) :=
  OpenClaim.holds_of_wide 5 Tryz.f5 rfl rfl rfl rfl rfl rfl rfl ⟨rfl, rfl, rfl, rfl, rfl⟩ rfl rfl rfl rfl rfl (by kernel_rfl) Tryz.func5 (by kernel_rfl)
    (of_decide_eq_true (by kernel_rfl)) (by unfold Func.isWrapper; first | (rw [if_pos (by decide +kernel)]; kernel_rfl) | (rw [if_neg (by decide +kernel)]; exact ⟨rfl, rfl⟩))
    (fun os started H enc _ => lifted os started H enc)
theorem proved : Rows.CellPlaysSaid := over
#print axioms proved
end Go.Proofs.YtpebaginkkbnpaaGreat.cellPlays
namespace Go.Proofs.YtpebaginkkbnpaaGreat
/-- The row, under a short name, for the claim. -/
theorem cellPlays_holds : Rows.CellPlaysSaid := cellPlays.proved
end Go.Proofs.YtpebaginkkbnpaaGreat
