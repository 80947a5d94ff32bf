/- Cells: what a read tells. -/
import Derived.Test.YtpebaginkkbnpaaGreatSCellT
namespace Ev
open Go (IntKind)

def mixX (s : Bytes) (o : Option Bytes) : Bytes := if o.getD [] = [] then s else mixF s (o.getD [])
/-- A page's bytes as they are. -/
def rawX (q : CeA) (t : Ce) (b p : Nat) : Bytes := mixX (t.s.read q.a b p) (t.X (q.num b p))
/-- Behind the turning of bits. -/
def Ce.turned (q : CeA) (t : Ce) : Ce := { t with reads := t.reads + 1, hw := 0, wk := false, X := turnX q (t.reads + 1) t.X t.N }
/-- What decoding tells. -/
def DecIs (q : CeA) (seed : Int) (raw : Bytes) (o : Bytes × Int × Int) : Prop := ∀ H, ∃ G, weave_Decode raw (shT q.W q.D 8 q.R) seed ⟨none, 0, 0⟩ H = some ((o.1, o.2.1, o.2.2, ()), G) ∧ Keep (fun _ => False) H G
def readC (q : CeA) (t : Ce) (b p : Int) (o : Bytes × Int × Int) : (Bytes × Bytes × Int × Unit) × Ce :=
  if t.s.inE q.a b p ≠ 0 then (([], [], t.s.inE q.a b p, ()), { t with hw := 0, wk := false })
  else if zbs (rawX q (t.turned q) b.toNat p.toNat) ≤ 16 then ((List.replicate q.S 255, List.replicate 32 255, 0, ()), { t.turned q with wk := !decide (zbs (rawX q (t.turned q) b.toNat p.toNat) = 0) })
  else if o.2.2 ≠ 0 then (([], [], o.2.2, ()), t.turned q)
  else ((o.1.take q.S, o.1.drop q.S, 0, ()), { t.turned q with hw := o.2.1, wk := decide (2 ≤ o.2.1) })

section
variable {H : Heap} {q : CeA} {t : Ce} {D : Int}

theorem read_len (h : CeAt H q t) (w : Wf q.a t.s D) (b p : Nat) : (t.s.read q.a b p).length = q.R := by rw [w.fine.read b p, h.aS]
theorem mixX_len {s : Bytes} {o : Option Bytes} {n : Nat} (hs : s.length = n) (h : ∀ x, o = some x → x.length = n) : (mixX s o).length = n := by
  unfold mixX
  split
  · exact hs
  · rename_i hn
    cases o with
    | none => exact absurd rfl hn
    | some x =>
      have := h x rfl
      rw [mixF_len]
      show min s.length x.length = n
      omega
theorem rawX_len (h : CeAt H q t) (w : Wf q.a t.s D) (b p : Nat) : (rawX q t b p).length = q.R := mixX_len (read_len h w b p) (h.len _)

theorem ce_raw (h : CeAt H q t) (w : Wf q.a t.s D) {b p : Int} (he : t.s.inE q.a b p = 0) : ∃ H', cell_Cells_raw (some (q.c, 0)) b p H = some ((rawX q t b.toNat p.toNat, 0, ()), H') ∧ CeAt H' q t ∧ Keep (fun _ => False) H H' := by
  obtain ⟨H1, n1, n2, n3⟩ := nand_readT h.nd w b p
  have hC := h.keep n3 fun _ _ => id
  obtain ⟨_, i, j, rfl, rfl, hi, hj⟩ := in_zero he
  have hsz := h.sz
  have hR := h.R_le
  have hl := read_len h w i j
  have hrt : t.s.readT q.a (i : Int) (j : Int) = ((t.s.read q.a i j).take q.a.S, (t.s.read q.a i j).drop q.a.S, 0, ()) := by
    unfold Nd.readT
    rw [if_neg (by simpa using he), Int.toNat_natCast, Int.toNat_natCast]
  rw [hrt] at n1
  have hcat : catS ((t.s.read q.a i j).take q.a.S) ((t.s.read q.a i j).drop q.a.S) = some (t.s.read q.a i j) := by
    rw [cat_of (by rw [List.length_take, List.length_drop]; omega), List.take_append_drop]
  refine ⟨H1, ?_, hC, n3⟩
  unfold cell_Cells_raw
  simp only [bind_some, h.rc, n1, decide_true, Bool.not_true, cond_f, hcat, Nat.zero_add, hC.rm, ce_at hC (show 0 ≤ (i : Int) ∧ (i : Int) ≤ 1000 by omega) (show 0 ≤ (j : Int) ∧ (j : Int) ≤ 1000 by omega), hC.mget, if_true, Int.toNat_natCast]
  unfold rawX mixX
  by_cases c : (t.X (q.num i j)).getD [] = []
  · rw [decide_eq_true c, if_pos c]; rfl
  · have hm : ((t.X (q.num i j)).getD []).length = q.R := by
      cases hx : t.X (q.num i j) with
      | none => rw [hx] at c; exact absurd rfl c
      | some x => exact h.len _ _ hx
    rw [decide_eq_false c, if_neg c, mix_eq _ _ (by omega) (by omega)]; rfl

set_option maxHeartbeats 1000000 in
theorem ce_read (h : CeAt H q t) (w : Wf q.a t.s D) (hr : 0 ≤ t.reads ∧ t.reads ≤ 1000000000) (b p : Int) (o : Bytes × Int × Int)
    (hd : t.s.inE q.a b p = 0 → 16 < zbs (rawX q (t.turned q) b.toNat p.toNat) → DecIs q (t.seed + q.num b p) (rawX q (t.turned q) b.toNat p.toNat) o ∧ (o.2.2 = 0 → o.1.length = q.S + 32)) :
    ∃ H', cell_Cells_Read (some (q.c, 0)) b p H = some ((readC q t b p o).1, H') ∧ CeAt H' q (readC q t b p o).2 ∧ Keep q.fp H H' := by
  obtain ⟨H1, w1, w2, w3⟩ := h.wlast 0 false
  obtain ⟨H2, n1, n2, n3⟩ := nand_readT w2.nd w b p
  have hC2 := w2.keep n3 fun _ _ => id
  have k2 : Keep q.fp H H2 := w3.trans (n3.mono fun _ e => e.elim)
  unfold readC
  unfold cell_Cells_Read
  simp only [Option.isNone_some, cond_f, bind_some, Nat.zero_add, w1, w2.rc, n1]
  by_cases he : t.s.inE q.a b p = 0
  case neg =>
    rw [if_pos he]
    have hrt : t.s.readT q.a b p = ([], [], t.s.inE q.a b p, ()) := by unfold Nd.readT; rw [if_pos he]
    rw [hrt]
    simp only [decide_eq_false he, Bool.not_false, cond_t]
    exact ⟨H2, rfl, hC2, k2⟩
  rw [if_neg (by simpa using he)]
  have hrt : (t.s.readT q.a b p).2.2.1 = 0 := by unfold Nd.readT; rw [if_neg (by simpa using he)]
  rw [hrt]
  simp only [decide_true, Bool.not_true, cond_f]
  obtain ⟨H3, t1, t2, t3⟩ := ce_turn hC2 hr
  obtain ⟨H4, q1, q2, q3⟩ := ce_raw t2 (D := D) w he
  have k4 : Keep q.fp H H4 := (k2.trans t3).trans (q3.mono fun _ e => e.elim)
  have hlen := rawX_len (D := D) t2 w b.toNat p.toNat
  have hR := h.R_le
  obtain ⟨_, i, j, rfl, rfl, hi, hj⟩ := in_zero he
  have hsz := h.sz
  have hsd := h.sd
  simp only [bind_some, t1, q1, decide_true, Bool.not_true, cond_f, Int.toNat_natCast]
  have e1 : ({ t with reads := t.reads + 1, hw := 0, wk := false, X := turnX q (t.reads + 1) t.X t.N } : Ce) = t.turned q := rfl
  replace q2 : CeAt H4 q (t.turned q) := q2
  replace hlen : (rawX q (t.turned q) i j).length = q.R := hlen
  rw [show rawX q { t with reads := t.reads + 1, hw := 0, wk := false, X := turnX q (t.reads + 1) t.X t.N } i j = rawX q (t.turned q) i j from rfl]
  have hd' := hd he
  rw [Int.toNat_natCast, Int.toNat_natCast] at hd'
  clear hd
  obtain ⟨raw, hraw⟩ : ∃ x, x = rawX q (t.turned q) i j := ⟨_, rfl⟩
  simp only [← hraw] at hd' hlen ⊢
  rw [erased_eq raw 16 (by omega), erased_eq raw 0 (by omega)]
  simp only [bind_some]
  by_cases hz : zbs raw ≤ 16
  · rw [if_pos hz, decide_eq_true (show ((zbs raw : Nat) : Int) ≤ 16 by omega)]
    have hzz : (decide (((zbs raw : Nat) : Int) ≤ 0)) = decide (zbs raw = 0) := by
      by_cases h0 : zbs raw = 0
      · rw [decide_eq_true h0, decide_eq_true (by omega)]
      · rw [decide_eq_false h0, decide_eq_false (by omega)]
    obtain ⟨H5, v1, v2, v3⟩ := q2.wweak (!decide (zbs raw = 0))
    have hC5 := v2.push (.cells [.int .u8 255] .exact)
    have st : strOf (H5 ++ [Blk.cells [.int .u8 255] .exact]) ⟨some (H5.length, 0), 1, 1⟩ = some [255] := strOf_of app_last (by simp) (by rfl)
    have rep := full_rep (n := q.S) (by omega)
    have s1 : subS (List.replicate (q.S + 32) (255 : UInt8)) 0 (q.S : Int) = some (List.replicate q.S 255) := by
      have := sub_of (s := List.replicate (q.S + 32) (255 : UInt8)) (lo := 0) (hi := q.S) (by omega) (by simp)
      rw [List.drop_zero, List.take_replicate, Nat.min_eq_left (by omega)] at this
      exact this
    have s2 : subS (List.replicate (q.S + 32) (255 : UInt8)) (q.S : Int) ((List.replicate (q.S + 32) (255 : UInt8)).length : Int) = some (List.replicate 32 255) := by
      rw [sub_of (by simp) (Nat.le_refl _), List.take_length, List.drop_replicate]; simp
    simp only [cond_t, hzz, bind_some, v1, st, hC5.rS, rep, s1, s2]
    exact ⟨_, rfl, hC5, (k4.trans v3).trans (Keep.push _ _ _)⟩
  · rw [if_neg hz, decide_eq_false (show ¬ ((zbs raw : Nat) : Int) ≤ 16 by omega)]
    obtain ⟨hdd, hol⟩ := hd' (by omega)
    obtain ⟨G, d1, d2⟩ := hdd H4
    have hC6 := q2.keep d2 fun _ _ => id
    have k6 : Keep q.fp H G := k4.trans (d2.mono fun _ e => e.elim)
    have hmask := ce_mask q2 (show 0 ≤ (i : Int) ∧ (i : Int) ≤ 1000 by omega) (show 0 ≤ (j : Int) ∧ (j : Int) ≤ 1000 by omega)
    have hseed : (t.turned q).seed = t.seed := rfl
    rw [hseed] at hmask
    have d1' : weave_Decode raw ((q.W : Int), (q.D : Int), ((8 : Nat) : Int), (q.R : Int), ()) (t.seed + q.num i j) ⟨none, 0, 0⟩ H4 = some ((o.1, o.2.1, o.2.2, ()), G) := d1
    simp only [cond_f, bind_some, q2.rsh, shT_eq, hmask, if_true, d1']
    by_cases ho : o.2.2 = 0
    · rw [decide_eq_true ho, if_neg (by simpa using ho)]
      obtain ⟨H7, v1, v2, v3⟩ := hC6.wlast o.2.1 (decide (2 ≤ o.2.1))
      have hl := hol ho
      have s1 : subS o.1 0 (q.S : Int) = some (o.1.take q.S) := by
        have := sub_of (s := o.1) (lo := 0) (hi := q.S) (by omega) (by omega)
        rw [List.drop_zero] at this
        exact this
      have s2 : subS o.1 (q.S : Int) (o.1.length : Int) = some (o.1.drop q.S) := by
        rw [sub_of (by omega) (Nat.le_refl _), List.take_length]
      simp only [Bool.not_true, cond_f, bind_some, v1, v2.rS, s1, s2]
      exact ⟨H7, rfl, v2, k6.trans v3⟩
    · rw [decide_eq_false ho, if_pos ho]
      simp only [Bool.not_false, cond_t]
      exact ⟨G, rfl, hC6, k6⟩

theorem read_nil (b p : Int) (H : Heap) : cell_Cells_Read none b p H = some (([], [], 1, ()), H) := rfl
theorem ce_health (h : CeAt H q t) : ∃ H', cell_Cells_Health (some (q.c, 0)) H = some (((t.hw, t.wk, ()), ()), H') ∧ CeAt H' q t ∧ Keep (fun _ => False) H H' := by
  have hC := h.push (.cells [.int .i64 0, .bool false] .exact)
  have hl := wr_last (H := H) (o := 0) (cs := [.int .i64 0, .bool false]) (bk := .exact) (new := [.int .i64 t.hw, .bool t.wk]) (by decide) (by simp)
  have hC2 := h.push (.cells [.int .i64 t.hw, .bool t.wk] .exact)
  have hr : @Eq (Option (Int × Bool × Unit)) (rd (H ++ [Blk.cells [.int .i64 t.hw, .bool t.wk] .exact]) (.agg [.int .i64, .bool]) H.length 0) (some (t.hw, t.wk, ())) := by
    refine rd_agg_of app_last (by simp) ?_
    simp [Tup.un, CT.un]
    rfl
  refine ⟨H ++ [.cells [.int .i64 t.hw, .bool t.wk] .exact], ?_, hC2, Keep.push _ _ _⟩
  unfold cell_Cells_Health
  have hl' : wr (H ++ [Blk.cells [.int .i64 0, .bool false] .exact]) H.length 0 [.int .i64 t.hw, .bool t.wk] = some (H ++ [.cells [.int .i64 t.hw, .bool t.wk] .exact]) := hl
  simp only [Option.isNone_some, cond_f, bind_some, Nat.zero_add, hC.rlast, hl', hr]
theorem ce_chip (h : CeAt H q t) : cell_Cells_Chip (some (q.c, 0)) H = some ((some (q.a.c, 0), ()), H) := by
  unfold cell_Cells_Chip
  simp only [Option.isNone_some, cond_f, bind_some, h.rc]
theorem ce_reads (h : CeAt H q t) : cell_Cells_Reads (some (q.c, 0)) H = some ((t.reads, ()), H) := by
  unfold cell_Cells_Reads
  simp only [Option.isNone_some, cond_f, bind_some, Nat.zero_add, h.rr]
end
end Ev
