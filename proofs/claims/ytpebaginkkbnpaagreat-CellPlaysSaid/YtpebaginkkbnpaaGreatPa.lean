/- weave.part: each Words-th byte; walked over the program's own code. -/
import Derived.Test.YtpebaginkkbnpaaGreatEvRep
import Derived.Test.YtpebaginkkbnpaaGreatProg
import Derived.Shelf.Strings.Builder1
import Derived.KernelRfl
import Derived.WalkKit
import Derived.BigCall
set_option linter.unusedVariables false
namespace Go.Proofs
open Go.Shelf Go.RowKit
def Tryz.lays169_ren : Go.Shelf.Ren := ⟨fun | 169 => 58 | n => n, fun | 70 => 108 | 9 => 9 | 0 => 0 | 72 => 110 | 37 => 74 | 127 => 133 | 3 => 3 | 5 => 5 | n => n, fun | n => n⟩
theorem Tryz.lays169 : Go.Proofs.Lays.n169 Tryz.prog Tryz.lays169_ren := {
  mixed := by kernel_rfl
  f169 := Tryz.func58.trans (congrArg some (by kernel_rfl))
  t0 := Tryz.underlying0
  a0 := Tryz.isAgg0
  z0 := Tryz.sizeOf0
  v0 := Tryz.zeroValue0
  t3 := Tryz.underlying3
  a3 := Tryz.isAgg3
  z3 := Tryz.sizeOf3
  v3 := Tryz.zeroValue3
  t9 := Tryz.underlying9
  a9 := Tryz.isAgg9
  z9 := Tryz.sizeOf9
  v9 := Tryz.zeroValue9
  t37 := Tryz.underlying74
  a37 := Tryz.isAgg74
  z37 := Tryz.sizeOf74
  v37 := Tryz.zeroValue74
  t70 := Tryz.underlying108
  a70 := Tryz.isAgg108
  z70 := Tryz.sizeOf108
  v70 := Tryz.zeroValue108
  t72 := Tryz.underlying110
  a72 := Tryz.isAgg110
  z72 := Tryz.sizeOf110
  v72 := Tryz.zeroValue110
  t127 := Tryz.underlying133
  a127 := Tryz.isAgg133
  z127 := Tryz.sizeOf133
  v127 := Tryz.zeroValue133 }
theorem Tryz.Builder_Extra_169 : Builder.Extra Tryz.prog Tryz.lays169_ren := {
  sizeBuilder := by kernel_rfl
  liesBuilder := by kernel_rfl
  t5 := Tryz.underlying5
  a5 := Tryz.isAgg5
  z5 := Tryz.sizeOf5
  v5 := Tryz.zeroValue5
  infoByte := by kernel_rfl
  cellsByte := by kernel_rfl
  sizeByte := by kernel_rfl
  neB5 := by decide }

set_option maxHeartbeats 1000000 in
set_option maxRecDepth 100000 in
theorem Tryz.cc_used (b : Nat) (w : World) (h0 : w.cell? ⟨b, 0, none⟩ = some (.pointer (some ⟨b, 0, none⟩))) :
    Calls Tryz.prog 72 #[.pointer (some ⟨b, 0, none⟩)] w fun e w' => e = .returned (.tuple #[]) ∧ w' = w := by
  obtain ⟨j, hj, _⟩ := Option.map_eq_some_iff.1 Tryz.Builder_Extra_169.sizeBuilder
  go_enter Tryz.func72, Tryz.ntmps72
  go_wp2
  rw [Lib.run_neq_ptr_same w _ Tryz.underlying108 hj]
  go_wp2
  go_end0
  exact ⟨rfl, rfl⟩
set_option maxHeartbeats 1000000 in
set_option maxRecDepth 100000 in
theorem Tryz.cc_fresh (b : Nat) (w : World) (h0 : w.cell? ⟨b, 0, none⟩ = some (.pointer none)) (hsh : w.shape? b = some (110, 2)) (hfz : w.frozen? ⟨b, 0, none⟩ = false) :
    Calls Tryz.prog 72 #[.pointer (some ⟨b, 0, none⟩)] w fun e w' => e = .returned (.tuple #[]) ∧ w' = w.setCell ⟨b, 0, none⟩ (.pointer (some ⟨b, 0, none⟩)) := by
  obtain ⟨j, hj, hjs⟩ := Option.map_eq_some_iff.1 Tryz.Builder_Extra_169.sizeBuilder
  go_enter Tryz.func72, Tryz.ntmps72
  go_wp2
  rw [Lib.run_to_unsafe w ⟨b, 0, none⟩ Tryz.underlying108 Tryz.underlying147 hj (by rw [hjs]; decide) hsh (Nat.zero_lt_succ 1)]
  simp only [Result.andThen]
  rw [Oper.upon_value]
  go_wp2
  rw [run_callFunc_extern Tryz.func92 (by kernel_rfl) (by kernel_rfl) (by kernel_rfl) (e := Extern.AbiNoEscape.same) (by kernel_rfl)]
  rw [Lib.run_noEscape]
  simp only [Result.andThen]
  rw [Oper.upon_value]
  go_wp2
  rw [Lib.run_from_unsafe w ⟨b, 0, none⟩ Tryz.underlying147 Tryz.underlying108 hj hsh Tryz.Builder_Extra_169.liesBuilder]
  simp only [Result.andThen]
  rw [Oper.upon_value]
  go_wp2
  go_end0
  exact ⟨rfl, rfl⟩
theorem Tryz.cc (B b : Nat) (bs : List Value) (w : World) (h : Lib.IsBuilder 110 5 B b bs w) :
    Calls Tryz.prog 72 #[.pointer (some ⟨b, 0, none⟩)] w fun e w' => e = .returned (.tuple #[]) ∧ (Lib.BuilderAt 110 5 B b (.pointer (some ⟨b, 0, none⟩)) bs w' ∧ Below B w w') := by
  rcases h with h | h
  · refine (Tryz.cc_fresh b w h.cell0 h.shape h.frozen0).mono ?_
    rintro e w' ⟨rfl, rfl⟩
    exact ⟨rfl, h.used _, (Below.refl B w).setCell (p := ⟨b, 0, none⟩) h.1 _⟩
  · refine (Tryz.cc_used b w h.cell0).mono ?_
    rintro e w' ⟨rfl, rfl⟩
    exact ⟨rfl, h, Below.refl B _⟩
set_option maxHeartbeats 2000000 in
set_option maxRecDepth 100000 in
theorem Tryz.writeByte (B b : Nat) (bs : List Value) (c : Int) (w : World) (h : Lib.IsBuilder 110 5 B b bs w) (hlen : bs.length + 1 ≤ 140737488355328) (hBw : B ≤ w.heap.size) :
    Calls Tryz.prog 68 #[.pointer (some ⟨b, 0, none⟩), .int .u8 c] w fun e w' => e = .returned .nilIface ∧ (Lib.BuilderAt 110 5 B b (.pointer (some ⟨b, 0, none⟩)) (bs ++ [.int .u8 c]) w' ∧ Below B w w') := by
  obtain ⟨i0, hi, hz0, hz1, hz2⟩ := info_parts Tryz.Builder_Extra_169.infoByte
  go_enter Tryz.func68, Tryz.ntmps68
  go_wp2_with (go_at_call 72; refine (Tryz.cc B b bs _ h).mono ?_)
  rintro e w1 ⟨rfl, h1, hb1⟩
  obtain ⟨hB, v, hbk, hown, hne⟩ := h1
  have c0 : w1.cell? ⟨b, 0, none⟩ = some (.pointer (some ⟨b, 0, none⟩)) := by rw [Lib.cell_of_heap hbk]; rfl
  have c1 : w1.cell? ⟨b, 1, none⟩ = some v := by rw [Lib.cell_of_heap hbk]; rfl
  go_wp2_with (at_builtin; refine wpList_append_own _ rfl _ _ 74 rfl B 5 i0 (.int .u8 0) 1 1 Tryz.underlying74 hi hz0 hz1 hz2 rfl (by decide) _ _ _ rfl (hown.alloc _) ⟨w1.heap.size, 0, none⟩ 1 1 [.int .u8 c] rfl rfl ?c1 ?c2 ?c3 ?c4 ?c5 ?_)
  case c1 =>
    intro j u hj
    match j, hj with
    | 0, hj => simp at hj; subst hj; simp [Addr.add]
  case c2 => intro u hu; simp at hu; subst hu; rfl
  case c3 => unfold maxLen; omega
  case c4 => omega
  case c5 => have := hb1.size; simp; omega
  intro v' w2 hown' hgrow _
  have hlt : b < w1.heap.size := by
    rcases Nat.lt_or_ge b w1.heap.size with h' | h'
    · exact h'
    · simp [Array.getElem?_eq_none h'] at hbk
  have hb2 : w2.heap[b]? = some (.cells #[.pointer (some ⟨b, 0, none⟩), v] 110 (0, 0)) := by
    rw [hgrow.block b (by simp; omega) (fun e => hne e.symm), Lib.alloc_old w1 _ b hlt]
    exact hbk
  have d0 : w2.cell? ⟨b, 0, none⟩ = some (.pointer (some ⟨b, 0, none⟩)) := by rw [Lib.cell_of_heap hb2]; rfl
  have d1 : w2.cell? ⟨b, 1, none⟩ = some v := by rw [Lib.cell_of_heap hb2]; rfl
  have f1 : w2.frozen? ⟨b, 1, none⟩ = false := Lib.frozen_of_heap hb2 1
  obtain ⟨g, cap, rfl⟩ : ∃ g cap, v' = .slice (some ⟨g, 0, none⟩) (bs.length + 1) cap := by
    rcases hown'.2 with ⟨_, h0⟩ | ⟨g, cap, cur, hv, _⟩
    · omega
    · exact ⟨g, cap, hv⟩
  go_wp2
  go_ret
  refine ⟨rfl, ?_, ?_⟩
  · exact Lib.BuilderAt.put (T := 110) (e := 5) hB hb2 (bs' := bs ++ [.int .u8 c]) (by simpa using hown') Tryz.Builder_Extra_169.neB5
  · exact ((hb1.alloc (by have := hb1.size; omega) _).grown hgrow (by have := hb1.size; simp; omega) (fun k hk => (hown.lt k hk).1)).setCell (p := ⟨b, 1, none⟩) hB _
theorem Tryz.string_any (B b : Nat) (l : List UInt8) (w : World) (h : Lib.IsBuilder 110 5 B b (Lib.byteCells l) w) (hBw : B ≤ w.heap.size) :
    Calls Tryz.prog 58 #[.pointer (some ⟨b, 0, none⟩)] w fun e w' => e = .returned (.string ⟨l.toArray⟩) ∧ Below B w w' := Any.Builder_String_any Tryz.lays169 Tryz.Builder_Extra_169 B b l w h hBw
theorem Tryz.partL_end (s : List UInt8) (w f i : Nat) (h : ¬ i < s.length) : Ev.partL s w f i = [] := by
  cases f with
  | zero => rfl
  | succ f => simp [Ev.partL, h]
set_option maxHeartbeats 4000000 in
set_option maxRecDepth 1000000 in
theorem Tryz.part_walk (s : ByteArray) (a1 a2 a3 : Int) (W n : Nat) (w : World) (hs : s.size ≤ 1099511627776) (hW : 1 ≤ W) (hW2 : W ≤ 1099511627776) (hn : n ≤ 1099511627776) :
    Calls Tryz.prog 52 #[.string s, .agg #[.int .i64 W, .int .i64 a1, .int .i64 a2, .int .i64 a3], .int .i64 n] w fun e w' => e = .returned (.string ⟨(Ev.partL s.data.toList W s.size n).toArray⟩) ∧ Below w.heap.size w w' := by
  go_enter Tryz.func52, Tryz.ntmps52
  go_wp2
  go_loopw [8] (fun v wr => ∃ (k fuel : Nat) (acc : List UInt8), v = .int .i64 k ∧ k ≤ 2 * 1099511627776 ∧ Lib.IsBuilder 110 5 (w.heap.size + 1) (w.heap.size + 1) (Lib.byteCells acc) wr ∧ wr.cell? ⟨w.heap.size, 0, none⟩ = some (.int .i64 W) ∧ w.heap.size + 1 ≤ wr.heap.size ∧ Below w.heap.size w wr ∧ acc ++ Ev.partL s.data.toList W fuel k = Ev.partL s.data.toList W s.size n ∧ s.size ≤ k + fuel ∧ acc.length ≤ k) (fun v _ => s.size - (intOf v).toNat)
  case atStart =>
    refine ⟨n, s.size, [], rfl, by omega, ?_, ?_, by simp, ((Below.refl _ w).alloc (Nat.le_refl _) _).alloc (by simp) _, rfl, by omega, by simp⟩
    · have := Lib.fresh_isBuilder 110 5 (w.alloc (.cells #[.int .i64 W, .int .i64 a1, .int .i64 a2, .int .i64 a3] 61))
      have hnil : Lib.byteCells [] = [] := rfl
      rw [hnil]
      simpa using this
    · refine (((Below.refl (w.heap.size + 1) (w.alloc (.cells #[.int .i64 W, .int .i64 a1, .int .i64 a2, .int .i64 a3] 61))).alloc (by simp) _).cell (show w.heap.size < w.heap.size + 1 by omega)).trans ?_
      have hbk : (w.alloc (.cells #[.int .i64 W, .int .i64 a1, .int .i64 a2, .int .i64 a3] 61)).heap[w.heap.size]? = some (.cells #[.int .i64 W, .int .i64 a1, .int .i64 a2, .int .i64 a3] 61 (0, 0)) := by
        show (w.heap.push _)[w.heap.size]? = _
        rw [Array.getElem?_push, if_pos rfl]
      rw [Lib.cell_of_heap hbk]; rfl
  case round =>
    obtain ⟨k, fuel, acc, rfl, hk, hI, hcell, hsz, hbw, hacc, hfu, hal⟩ := hrel
    by_cases hp : k < s.size
    · have hlen : s.data.toList.length = s.size := by rw [Array.length_toList]; rfl
      have hcg : (s.data.toList.getD k 0) = s[k] := by
        rw [List.getD_eq_getElem?_getD, List.getElem?_eq_getElem (by omega)]; rfl
      obtain ⟨f, rfl⟩ : ∃ f, fuel = f + 1 := ⟨fuel - 1, by omega⟩
      go_wp2_with (go_at_call 68; refine (Tryz.writeByte (w.heap.size + 1) (w.heap.size + 1) _ _ _ hI (by rw [Lib.byteCells_length]; omega) (by omega)).mono ?_)
      rintro e W1 ⟨rfl, h1, b1⟩
      have hc1 : W1.cell? ⟨w.heap.size, 0, none⟩ = some (.int .i64 W) := (b1.cell (show w.heap.size < w.heap.size + 1 by omega)).trans hcell
      go_wp2
      go_roundw
      case rel =>
        refine ⟨k + W, f, acc ++ [s[k]], by simp, by omega, ?_, hc1, by have := b1.size; omega, hbw.trans (b1.mono (by omega)), ?_, by omega, by simp; omega⟩
        · rw [Lib.byteCells_append]; exact Or.inr h1
        · rw [← hacc, Ev.partL, if_pos (by omega), hcg]; simp
      case measure =>
        simp only [intOf]
        omega
    · go_wp2_with (go_at_call 58; refine (Tryz.string_any (w.heap.size + 1) (w.heap.size + 1) acc _ hI (by omega)).mono ?_)
      rintro e W1 ⟨rfl, b1⟩
      go_wp2
      go_ret
      have hlen : s.data.toList.length = s.size := by rw [Array.length_toList]; rfl
      rw [Tryz.partL_end s.data.toList W fuel k (by omega), List.append_nil] at hacc
      subst hacc
      exact ⟨rfl, hbw.trans (b1.mono (by omega))⟩
end Go.Proofs
namespace Ev
open Go Go.Proofs
theorem part_inv {s : Bytes} {sh : Int × Int × Int × Int × Unit} {n : Int} {r : Bytes × Unit} (h : weave_part s sh n = some r) : (s.length ≤ 1099511627776 ∧ 1 ≤ sh.1 ∧ sh.1 ≤ 1099511627776 ∧ 0 ≤ n ∧ n ≤ 1099511627776) ∧ r = (partL s sh.1.toNat s.length n.toNat, ()) := by
  unfold weave_part at h
  cases hd : decide (s.length ≤ 1099511627776 ∧ 1 ≤ sh.1 ∧ sh.1 ≤ 1099511627776 ∧ 0 ≤ n ∧ n ≤ 1099511627776) with
  | false => rw [hd] at h; cases h
  | true =>
    rw [hd] at h
    cases h
    exact ⟨of_decide_eq_true hd, rfl⟩
theorem weave_part.tied : Tied Tryz.prog weave_part.c 52 := by
  refine ⟨?_, ⟨_, Tryz.func52, by kernel_rfl, by kernel_rfl⟩⟩
  intro r H w t x vs hR hvs hg
  obtain ⟨s, sh, n, u⟩ := t
  obtain ⟨res, u'⟩ := x
  obtain ⟨⟨d1, d2, d3, d4, d5⟩, d6⟩ := part_inv (s := s) (sh := sh) (n := n) (r := (res, u')) hg
  clear hg
  change Int at n
  change Bytes at s
  change Bytes at res
  obtain ⟨W, a1, a2, a3, u2⟩ := sh
  change Int at W
  change Int at a1
  change Int at a2
  change Int at a3
  match vs, hvs with
  | [v, v', v''], ⟨⟨x, hx1, hx2⟩, ⟨us, hu1, hu2⟩, hy, _⟩ =>
    subst hx1
    have hx3 : x.data.toList = s := hx2
    have hy : v'' = .int .i64 n := hy
    subst hy
    subst hu1
    match us, hu2 with
    | [c1, c2, c3, c4], ⟨e1, e2, e3, e4, _⟩ =>
      have e1 : c1 = .int .i64 W := e1
      have e2 : c2 = .int .i64 a1 := e2
      have e3 : c3 = .int .i64 a2 := e3
      have e4 : c4 = .int .i64 a3 := e4
      subst e1 e2 e3 e4
      simp only at d2 d3
      obtain ⟨W', rfl⟩ : ∃ c : Nat, W = (c : Int) := ⟨W.toNat, (Int.toNat_of_nonneg (by omega)).symm⟩
      obtain ⟨n', rfl⟩ : ∃ c : Nat, n = (c : Int) := ⟨n.toNat, (Int.toNat_of_nonneg d4).symm⟩
      have hs : x.size = s.length := by rw [← hx3, Array.length_toList]; rfl
      refine (Tryz.part_walk x a1 a2 a3 W' n' w (by omega) (by omega) (by omega) (by omega)).mono ?_
      rintro e w' ⟨rfl, bel⟩
      cases d6
      refine ⟨_, rfl, ⟨_, rfl, ?_⟩, hR.world fun k hk => bel.block k hk, ext_below bel⟩
      show (partL x.data.toList W' x.size n').toArray.toList = _
      rw [hx3, hs]; simp
end Ev
