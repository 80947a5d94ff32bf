/- The law TxnPlays: for every input it tells true, and changes nothing that came in. No condition beyond the given statement. -/
import Derived.Test.YtbnghapbakaheaaRows
import Derived.Test.YtbnghapbakaheaaT17
import Derived.Test.YtbnghapbakaheaaEvOpen
import Derived.Test.YtbnghapbakaheaaRTxnPlays
import Derived.WalkKit
import Derived.ProofKit
import Derived.OpenShut
import Derived.ShutString
import Derived.ChangeOld
import Derived.Below
import Derived.SizedLaws
namespace Go.Proofs.Ytbnghapbakaheaa.txnPlays
open Go.ChangeShapes Go.WideShapes Go.ChangeAt Go.RowKit
open Go.ChangeMaps (open_string shut_string)
set_option linter.unusedVariables false
theorem own : ownKnob Try.prog.godebug = none := by kernel_rfl
theorem laidOut : laidOutB Try.prog = true := by kernel_rfl
set_option maxRecDepth 100000 in
theorem lifted (os : Os) (started : os.Started) (H : Type) (enc : TypeId × Value → H) :
    ReturnsInHanded {} Try.checked os 3 .any (Rows.txnPlaysSpec.pre6 enc Try.prog Try.f3 Rows.txnPlaysRow.domain false) (Rows.txnPlaysSpec.post enc Try.prog Try.f3 false true false false) := by
  refine returnsInHanded_of_change_sized (C := Try.checked) own started (by kernel_rfl) Try.func3
    (ChangeSpec.witness6 (enc := enc) (C := Try.checked) false ⟨#[], #[.slice none 0 0, .slice none 0 0, .int .i64 0], []⟩ 8 (by kernel_rfl) (by kernel_rfl) (by kernel_rfl) (by kernel_rfl)) ?_
  intro W base args ds gs before hval0 hW hcnd hsz0 _
  have hsz : (DataW.weightsEach Try.prog (Try.f3.params.toList ++ Rows.txnPlaysSpec.plain.varTypes Try.prog) (ds ++ gs)).all (· ≤ reachBytes) = true := hsz0
  have hval : ∀ (j : Nat) t v, Try.f3.params[j]? = some t → args[j]? = some v → Value.okWide Try.prog W .any base t v := hval0
  have hW' := hW
  obtain ⟨p, q, hA0, hV, rfl, hfz, hnd⟩ := hW
  have hA : DataW.TrodAll enc Try.prog W 0 (fun _ => true) true Try.f3.params.toList args.toList ds p := hA0
  rw [Try.params3] at hA hval hsz
  obtain ⟨v0, vs0, d0, ds0, p0, q0, hargs, rfl, rfl, h0, r0⟩ := trodAll_cons hA
  obtain ⟨v1, vs1, d1, ds1, p1, q1, rfl, rfl, rfl, h1, r1⟩ := trodAll_cons r0
  obtain ⟨v2, vs2, d2, ds2, p2, q2, rfl, rfl, rfl, h2, r2⟩ := trodAll_cons r1
  obtain ⟨rfl, rfl, rfl⟩ := trodAll_nil r2
  obtain rfl : args = #[v0, v1, v2] := by cases args; simp_all
  obtain ⟨rfl, rfl⟩ := trodVars_none hV
  have k0 := h0
  obtain ⟨ρ0, H0, s0, le0, R0, ro0, c0, w0⟩ := Ev.open_flats (d := 8) Try.underlying22 (show Ev.flatCts Try.prog 8 35 = some [.int .i64, .int .i64, .int .i64, .int .i64, .int .i64, .int .i64] from by kernel_rfl) (by decide) (hval 0 22 v0 rfl rfl) h0 (Ev.R.empty W) (fun _ h => absurd h List.not_mem_nil)
  have k1 := h1
  obtain ⟨ρ1, H1, s1, le1, R1, ro1, c1, w1⟩ := Ev.open_flats (d := 8) Try.underlying23 (show Ev.flatCts Try.prog 8 49 = some [.int .i64, .int .i64, .int .i64, .int .i64, .int .i64, .int .i64, .str] from by kernel_rfl) (by decide) (hval 1 23 v1 rfl rfl) h1 R0 ro0
  have k2 := h2
  obtain ⟨a2, rfl, rfl, rfl, w2⟩ := open_int Try.underlying3 (hval 2 3 v2 rfl rfl) h2
  clear hA0 hval0 hsz0 hsz
  obtain ⟨H', hl⟩ := Ev.TxnPlays_true s0 s1 a2 w0 w1 (Ev.wf_c w2)
  refine Calls.mono (Ev.law17_TxnPlays.tied.sound ρ1 H1 W (s0, (s1, (a2, ()))) (true, ()) H' [v0, v1, .int .i64 a2] R1 ⟨(c0.mono le1), ⟨c1, ⟨rfl, trivial⟩⟩⟩ hl) ?_
  rintro e W' ⟨v, ρ', rfl, hv, hR', hx⟩
  obtain rfl : v = .bool true := hv
  have bel := Ev.below_of ro1 hx
  exact ⟨_, rfl, _, _, _, [], _, [], hW', trodAll_mk1 (shut_bool Try.underlying4 _), (trodAll_cons_mk (Ev.trod_back laidOut (by kernel_rfl) (of_decide_eq_true (by kernel_rfl)) k0 bel) (trodAll_cons_mk (Ev.trod_back laidOut (by kernel_rfl) (of_decide_eq_true (by kernel_rfl)) k1 bel) (trodAll_cons_mk (Ev.trod_back laidOut (by kernel_rfl) (of_decide_eq_true (by kernel_rfl)) k2 bel) trodAll_mk0))), rfl, bel.frame _, fun h => by cases h⟩
theorem over : Rows.txnPlaysRow.holds Try.pinned (OpenSpec.ofChange Rows.txnPlaysSpec) :=
  OpenClaim.holds_of_wide 3 Try.f3 rfl rfl rfl rfl rfl rfl rfl ⟨rfl, rfl, rfl, rfl, rfl⟩ rfl rfl rfl rfl rfl (by kernel_rfl) Try.func3 (by kernel_rfl)
    (of_decide_eq_true (by kernel_rfl)) (by unfold Func.isWrapper; first | (rw [if_pos (by decide +kernel)]; kernel_rfl) | (rw [if_neg (by decide +kernel)]; exact ⟨rfl, rfl⟩))
    (fun os started H enc _ => lifted os started H enc)
theorem proved : Rows.TxnPlaysSaid := over
#print axioms proved
end Go.Proofs.Ytbnghapbakaheaa.txnPlays
namespace Go.Proofs.Ytbnghapbakaheaa
/-- The row, under a short name, for the claim. -/
theorem txnPlays_holds : Rows.TxnPlaysSaid := txnPlays.proved
end Go.Proofs.Ytbnghapbakaheaa
