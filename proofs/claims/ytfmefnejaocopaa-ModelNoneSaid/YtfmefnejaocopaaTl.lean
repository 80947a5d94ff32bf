/- Blocks at a heap's end: what is read and written there, by simp. -/
import Derived.Test.YtfmefnejaocopaaEvLoop
import Derived.Test.YtfmefnejaocopaaArr
import Derived.Test.YtfmefnejaocopaaLp
set_option linter.unusedSimpArgs false
set_option linter.unusedVariables false
namespace Ev
open Go (IntKind)

theorem tl_get0 (H t : Heap) : (H ++ t)[H.length]? = t[0]? := by rw [List.getElem?_append_right (Nat.le_refl _), Nat.sub_self]
theorem tl_get1 (H t : Heap) (i : Nat) : (H ++ t)[H.length + i]? = t[i]? := by rw [List.getElem?_append_right (by omega), Nat.add_sub_cancel_left]
theorem rd_at {H G : Heap} {b c : Nat} (h : H[b]? = G[c]?) (ty : Ty) (o : Nat) : rd H ty b o = rd G ty c o := by
  cases ty with
  | one t => show (H.cell b o).bind _ = (G.cell c o).bind _; unfold Heap.cell; rw [h]
  | agg ts => show (H.row b o _).bind _ = (G.row c o _).bind _; unfold Heap.row; rw [h]
section
variable (H t : Heap) (i o : Nat) (k : IntKind)
theorem rd_t0 (ty : Ty) : rd (H ++ t) ty H.length o = rd t ty 0 o := rd_at (tl_get0 H t) ty o
theorem rd_t1 (ty : Ty) : rd (H ++ t) ty (H.length + i) o = rd t ty i o := rd_at (tl_get1 H t i) ty o
theorem rdI_t0 : rdI k (H ++ t) H.length o = rdI k t 0 o := rd_t0 H t o _
theorem rdI_t1 : rdI k (H ++ t) (H.length + i) o = rdI k t i o := rd_t1 H t i o _
theorem rdB_t0 : rdB (H ++ t) H.length o = rdB t 0 o := rd_t0 H t o _
theorem rdB_t1 : rdB (H ++ t) (H.length + i) o = rdB t i o := rd_t1 H t i o _
theorem rdM_t0 : rdM (H ++ t) H.length o = rdM t 0 o := rd_t0 H t o _
theorem rdM_t1 : rdM (H ++ t) (H.length + i) o = rdM t i o := rd_t1 H t i o _
theorem rdP_t0 : rdP (H ++ t) H.length o = rdP t 0 o := rd_t0 H t o _
theorem rdP_t1 : rdP (H ++ t) (H.length + i) o = rdP t i o := rd_t1 H t i o _
theorem rdS_t0 : rdS (H ++ t) H.length o = rdS t 0 o := rd_t0 H t o _
theorem rdS_t1 : rdS (H ++ t) (H.length + i) o = rdS t i o := rd_t1 H t i o _
theorem rdSl_t0 (es : Nat) : rdSl es (H ++ t) H.length o = rdSl es t 0 o := rd_t0 H t o _
theorem rdSl_t1 (es : Nat) : rdSl es (H ++ t) (H.length + i) o = rdSl es t i o := rd_t1 H t i o _
theorem wr_t1 (new : List C) : wr (H ++ t) (H.length + i) o new = (wr t i o new).map fun t' => H ++ t' := by
  unfold wr
  rw [tl_get1]
  cases h : t[i]? with
  | none => rfl
  | some x =>
    cases x with
    | cells cs bk =>
      simp only
      cases (decide (bk ≠ .ro) && decide (o + new.length ≤ cs.length)) with
      | false => rfl
      | true =>
        simp only [cond_true, Option.map_some]
        rw [List.set_append_right _ _ (by omega), Nat.add_sub_cancel_left]
    | _ => rfl
theorem wr_t0 (new : List C) : wr (H ++ t) H.length o new = (wr t 0 o new).map fun t' => H ++ t' := wr_t1 H t 0 o new
end
section
variable (x : Blk) (t : Heap) (i o : Nat) (k : IntKind) (cs : List C) (bk : BK)
theorem rd_c1 (ty : Ty) : rd (x :: t) ty (i + 1) o = rd t ty i o := rd_at List.getElem?_cons_succ ty o
theorem rdI_c1 : rdI k (x :: t) (i + 1) o = rdI k t i o := rd_c1 x t i o _
theorem rdB_c1 : rdB (x :: t) (i + 1) o = rdB t i o := rd_c1 x t i o _
theorem rdM_c1 : rdM (x :: t) (i + 1) o = rdM t i o := rd_c1 x t i o _
theorem rdP_c1 : rdP (x :: t) (i + 1) o = rdP t i o := rd_c1 x t i o _
theorem rdS_c1 : rdS (x :: t) (i + 1) o = rdS t i o := rd_c1 x t i o _
theorem rdSl_c1 (es : Nat) : rdSl es (x :: t) (i + 1) o = rdSl es t i o := rd_c1 x t i o _
theorem rdI_c0 : rdI k (.cells cs bk :: t) 0 o = (cs[o]?).bind (CT.un (.int k)) := rfl
theorem rdB_c0 : rdB (.cells cs bk :: t) 0 o = (cs[o]?).bind (CT.un .bool) := rfl
theorem rdM_c0 : rdM (.cells cs bk :: t) 0 o = (cs[o]?).bind (CT.un .mp) := rfl
theorem rdP_c0 : rdP (.cells cs bk :: t) 0 o = (cs[o]?).bind (CT.un .ptr) := rfl
theorem rdS_c0 : rdS (.cells cs bk :: t) 0 o = (cs[o]?).bind (CT.un .str) := rfl
theorem rdSl_c0 (es : Nat) : rdSl es (.cells cs bk :: t) 0 o = (cs[o]?).bind (CT.un (.sl es)) := rfl
theorem rd_c0 {ts : List CT} (h : cs.length = ts.length) : rd (.cells cs bk :: t) (.agg ts) 0 0 = Tup.un ts cs := by
  show (cut cs 0 ts.length).bind _ = _
  unfold cut
  rw [decide_eq_true (by omega), cond_t, List.drop_zero, ← h, List.take_length]; rfl
theorem wr_c1 (new : List C) : wr (x :: t) (i + 1) o new = (wr t i o new).map fun t' => x :: t' := by
  have := wr_t1 [x] t i o new
  rw [show [x].length + i = i + 1 from Nat.add_comm _ _] at this
  exact this
theorem wr_c0 (new : List C) (h : o + new.length ≤ cs.length) : wr (.cells cs .exact :: t) 0 o new = some (.cells (setL cs o new) .exact :: t) := by
  unfold wr
  simp only [List.getElem?_cons_zero]
  rw [decide_eq_true h]; rfl
theorem tun_cons (ct : CT) (r : List CT) (c : C) (l : List C) : Tup.un (ct :: r) (c :: l) = (ct.un c).bind fun x => (Tup.un r l).bind fun y => some (x, y) := rfl
theorem tun_nil : Tup.un [] [] = some () := rfl
theorem un_i (n : Int) : CT.un (.int .i64) (.int .i64 n) = some n := rfl
theorem un_b (n : Bool) : CT.un .bool (.bool n) = some n := rfl
theorem un_m (n : Option Nat) : CT.un .mp (.mp n) = some n := rfl
theorem un_p (n : Ptr) : CT.un .ptr (.ptr n) = some n := rfl
theorem un_s (n : Bytes) : CT.un .str (.str n) = some n := rfl
theorem un_sl1 (n : Sl) : CT.un (.sl 1) (.sl 1 n) = some n := rfl
theorem un_sl2 (n : Sl) : CT.un (.sl 2) (.sl 2 n) = some n := rfl
theorem un_sl3 (n : Sl) : CT.un (.sl 3) (.sl 3 n) = some n := rfl
end
theorem rd_iiib (t : Heap) (bk : BK) (x0 : Int) (x1 : Int) (x2 : Int) (x3 : Bool) : rd (.cells [.int .i64 x0, .int .i64 x1, .int .i64 x2, .bool x3] bk :: t) (.agg [.int .i64, .int .i64, .int .i64, .bool]) 0 0 = (some (x0, x1, x2, x3, ()) : Option (Int × Int × Int × Bool × Unit)) := rfl
theorem rd_iiiiii (t : Heap) (bk : BK) (x0 : Int) (x1 : Int) (x2 : Int) (x3 : Int) (x4 : Int) (x5 : Int) : rd (.cells [.int .i64 x0, .int .i64 x1, .int .i64 x2, .int .i64 x3, .int .i64 x4, .int .i64 x5] bk :: t) (.agg [.int .i64, .int .i64, .int .i64, .int .i64, .int .i64, .int .i64]) 0 0 = (some (x0, x1, x2, x3, x4, x5, ()) : Option (Int × Int × Int × Int × Int × Int × Unit)) := rfl
theorem rd_ibm (t : Heap) (bk : BK) (x0 : Int) (x1 : Bool) (x2 : Option Nat) : rd (.cells [.int .i64 x0, .bool x1, .mp x2] bk :: t) (.agg [.int .i64, .bool, .mp]) 0 0 = (some (x0, x1, x2, ()) : Option (Int × Bool × Option Nat × Unit)) := rfl
theorem rd_iii (t : Heap) (bk : BK) (x0 : Int) (x1 : Int) (x2 : Int) : rd (.cells [.int .i64 x0, .int .i64 x1, .int .i64 x2] bk :: t) (.agg [.int .i64, .int .i64, .int .i64]) 0 0 = (some (x0, x1, x2, ()) : Option (Int × Int × Int × Unit)) := rfl
theorem rd_iib (t : Heap) (bk : BK) (x0 : Int) (x1 : Int) (x2 : Bool) : rd (.cells [.int .i64 x0, .int .i64 x1, .bool x2] bk :: t) (.agg [.int .i64, .int .i64, .bool]) 0 0 = (some (x0, x1, x2, ()) : Option (Int × Int × Bool × Unit)) := rfl
theorem rd_ii (t : Heap) (bk : BK) (x0 : Int) (x1 : Int) : rd (.cells [.int .i64 x0, .int .i64 x1] bk :: t) (.agg [.int .i64, .int .i64]) 0 0 = (some (x0, x1, ()) : Option (Int × Int × Unit)) := rfl
theorem rd_3312 (t : Heap) (bk : BK) (x0 : Sl) (x1 : Sl) (x2 : Sl) (x3 : Sl) : rd (.cells [.sl 3 x0, .sl 3 x1, .sl 1 x2, .sl 2 x3] bk :: t) (.agg [.sl 3, .sl 3, .sl 1, .sl 2]) 0 0 = (some (x0, x1, x2, x3, ()) : Option (Sl × Sl × Sl × Sl × Unit)) := rfl
theorem rd_iiii (t : Heap) (bk : BK) (x0 : Int) (x1 : Int) (x2 : Int) (x3 : Int) : rd (.cells [.int .i64 x0, .int .i64 x1, .int .i64 x2, .int .i64 x3] bk :: t) (.agg [.int .i64, .int .i64, .int .i64, .int .i64]) 0 0 = (some (x0, x1, x2, x3, ()) : Option (Int × Int × Int × Int × Unit)) := rfl
theorem rd_si (t : Heap) (bk : BK) (x0 : Bytes) (x1 : Int) : rd (.cells [.str x0, .int .i64 x1] bk :: t) (.agg [.str, .int .i64]) 0 0 = (some (x0, x1, ()) : Option (Bytes × Int × Unit)) := rfl
theorem rd_33121 (t : Heap) (bk : BK) (x0 : Sl) (x1 : Sl) (x2 : Sl) (x3 : Sl) (x4 : Sl) : rd (.cells [.sl 3 x0, .sl 3 x1, .sl 1 x2, .sl 2 x3, .sl 1 x4] bk :: t) (.agg [.sl 3, .sl 3, .sl 1, .sl 2, .sl 1]) 0 0 = (some (x0, x1, x2, x3, x4, ()) : Option (Sl × Sl × Sl × Sl × Sl × Unit)) := rfl
theorem rd_33121i (t : Heap) (bk : BK) (x0 : Sl) (x1 : Sl) (x2 : Sl) (x3 : Sl) (x4 : Sl) (x5 : Int) : rd (.cells [.sl 3 x0, .sl 3 x1, .sl 1 x2, .sl 2 x3, .sl 1 x4, .int .i64 x5] bk :: t) (.agg [.sl 3, .sl 3, .sl 1, .sl 2, .sl 1, .int .i64]) 0 0 = (some (x0, x1, x2, x3, x4, x5, ()) : Option (Sl × Sl × Sl × Sl × Sl × Int × Unit)) := rfl
theorem Keep.app (F : Nat → Prop) (H t : Heap) : Keep F H (H ++ t) := ⟨by simp, fun _ hk _ => List.getElem?_append_left hk⟩
theorem rdI_low {H t : Heap} {b o : Nat} {k : IntKind} (h : b < H.length) : rdI k (H ++ t) b o = rdI k H b o := rd_at (List.getElem?_append_left h) _ o
/-- One element that was just written out. -/
theorem one_last (G t : Heap) (cs : List C) (bk : BK) (es i : Nat) (hi : t[i]? = some (.cells cs bk)) (h : es = cs.length) : slRow (G ++ t) es ⟨some (G.length + i, 0), 1, 1⟩ = some cs := by
  simp only [slRow, Heap.row, tl_get1, hi]
  unfold cut
  rw [decide_eq_true (by omega), cond_t, List.drop_zero, List.take_of_length_le (by omega)]
theorem slRow_t1 (H t : Heap) (es i o n c : Nat) : slRow (H ++ t) es ⟨some (H.length + i, o), n, c⟩ = slRow t es ⟨some (i, o), n, c⟩ := by
  simp only [slRow, Heap.row, tl_get1]
theorem slRow_t0 (H t : Heap) (es o n c : Nat) : slRow (H ++ t) es ⟨some (H.length, o), n, c⟩ = slRow t es ⟨some (0, o), n, c⟩ := slRow_t1 H t es 0 o n c
theorem sl_c1 (x : Blk) (t : Heap) (es i o n c : Nat) : slRow (x :: t) es ⟨some (i + 1, o), n, c⟩ = slRow t es ⟨some (i, o), n, c⟩ := rfl
theorem sl_c0 (t : Heap) (cs : List C) (bk : BK) {es : Nat} (h : es = cs.length) : slRow (.cells cs bk :: t) es ⟨some (0, 0), 1, 1⟩ = some cs := by
  show cut cs 0 (1 * es) = some cs
  exact cut_all (by omega)
end Ev
