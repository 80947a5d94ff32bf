/- The law CellHealth: for every input it tells true, and changes nothing that came in. No condition beyond the given statement. -/
import Derived.Test.YtpebaginkkbnpaaGreatRows
import Derived.Test.YtpebaginkkbnpaaGreatT30
import Derived.Test.YtpebaginkkbnpaaGreatEvOpen
import Derived.Test.YtpebaginkkbnpaaGreatSLaw30i
import Derived.WalkKit
import Derived.ProofKit
import Derived.OpenShut
import Derived.ShutString
import Derived.ChangeOld
import Derived.Below
import Derived.SizedLaws
namespace Go.Proofs.YtpebaginkkbnpaaGreat.cellHealth
open Go.ChangeShapes Go.WideShapes Go.ChangeAt Go.RowKit
open Go.ChangeMaps (open_string shut_string)
set_option linter.unusedVariables false
theorem own : ownKnob Tryz.prog.godebug = none := by kernel_rfl
theorem laidOut : laidOutB Tryz.prog = true := by kernel_rfl
set_option maxRecDepth 100000 in
theorem lifted (os : Os) (started : os.Started) (H : Type) (enc : TypeId × Value → H) :
    ReturnsInHanded {} Tryz.checked os 4 .any (Rows.cellHealthSpec.pre6 enc Tryz.prog Tryz.f4 Rows.cellHealthRow.domain false) (Rows.cellHealthSpec.post enc Tryz.prog Tryz.f4 false true false false) := by
  refine returnsInHanded_of_change_sized (C := Tryz.checked) own started (by kernel_rfl) Tryz.func4
    (ChangeSpec.witness6 (enc := enc) (C := Tryz.checked) false ⟨#[], #[.string ByteArray.empty, .slice none 0 0], []⟩ 8 (by kernel_rfl) (by kernel_rfl) (by kernel_rfl) (by kernel_rfl)) ?_
  intro W base args ds gs before hval0 hW hcnd hsz0 _
  have hsz : (DataW.weightsEach Tryz.prog (Tryz.f4.params.toList ++ Rows.cellHealthSpec.plain.varTypes Tryz.prog) (ds ++ gs)).all (· ≤ reachBytes) = true := hsz0
  have hval : ∀ (j : Nat) t v, Tryz.f4.params[j]? = some t → args[j]? = some v → Value.okWide Tryz.prog W .any base t v := hval0
  have hW' := hW
  obtain ⟨p, q, hA0, hV, rfl, hfz, hnd⟩ := hW
  have hA : DataW.TrodAll enc Tryz.prog W 0 (fun _ => true) true Tryz.f4.params.toList args.toList ds p := hA0
  rw [Tryz.params4] at hA hval hsz
  obtain ⟨v0, vs0, d0, ds0, p0, q0, hargs, rfl, rfl, h0, r0⟩ := trodAll_cons hA
  obtain ⟨v1, vs1, d1, ds1, p1, q1, rfl, rfl, rfl, h1, r1⟩ := trodAll_cons r0
  obtain ⟨rfl, rfl, rfl⟩ := trodAll_nil r1
  obtain rfl : args = #[v0, v1] := by cases args; simp_all
  obtain ⟨rfl, rfl⟩ := trodVars_none hV
  have k0 := h0
  obtain ⟨a0, rfl, rfl, rfl, y0⟩ := open_string Tryz.underlying9 (hval 0 9 v0 rfl rfl) h0
  have w0 : a0.data.toList.length ≤ 140737488351232 := sized_string hsz (j := 0) (t := 9) rfl rfl
  have k1 := h1
  obtain ⟨ρ1, H1, s1, le1, R1, ro1, c1, w1⟩ := Ev.open_flats (d := 8) Tryz.underlying33 (show Ev.flatCts Tryz.prog 8 3 = some [.int .i64] from by kernel_rfl) (by decide) (hval 1 33 v1 rfl rfl) h1 (Ev.R.empty W) (fun _ h => absurd h List.not_mem_nil)
  clear hA0 hval0 hsz0 hsz
  obtain ⟨H', hl⟩ := Ev.CellHealth_true (a0.data.toList) s1 w0 w1
  refine Calls.mono (Ev.law30_CellHealth.tied.sound ρ1 H1 W (a0.data.toList, (s1, ())) (true, ()) H' [.string a0, v1] R1 ⟨⟨_, rfl, rfl⟩, ⟨c1, trivial⟩⟩ hl) ?_
  rintro e W' ⟨v, ρ', rfl, hv, hR', hx⟩
  obtain rfl : v = .bool true := hv
  have bel := Ev.below_of ro1 hx
  exact ⟨_, rfl, _, _, _, [], _, [], hW', trodAll_mk1 (shut_bool Tryz.underlying4 _), (trodAll_cons_mk (Ev.trod_back laidOut (by kernel_rfl) (of_decide_eq_true (by kernel_rfl)) k0 bel) (trodAll_cons_mk (Ev.trod_back laidOut (by kernel_rfl) (of_decide_eq_true (by kernel_rfl)) k1 bel) trodAll_mk0)), rfl, bel.frame _, fun h => by cases h⟩
theorem over : Rows.cellHealthRow.holds Tryz.pinned (OpenSpec.ofChange Rows.cellHealthSpec) :=
  OpenClaim.holds_of_wide 4 Tryz.f4 rfl rfl rfl rfl rfl rfl rfl ⟨rfl, rfl, rfl, rfl, rfl⟩ rfl rfl rfl rfl rfl (by kernel_rfl) Tryz.func4 (by kernel_rfl)
    (of_decide_eq_true (by kernel_rfl)) (by unfold Func.isWrapper; first | (rw [if_pos (by decide +kernel)]; kernel_rfl) | (rw [if_neg (by decide +kernel)]; exact ⟨rfl, rfl⟩))
    (fun os started H enc _ => lifted os started H enc)
theorem proved : Rows.CellHealthSaid := over
#print axioms proved
end Go.Proofs.YtpebaginkkbnpaaGreat.cellHealth
namespace Go.Proofs.YtpebaginkkbnpaaGreat
/-- The row, under a short name, for the claim. -/
theorem cellHealth_holds : Rows.CellHealthSaid := cellHealth.proved
end Go.Proofs.YtpebaginkkbnpaaGreat
