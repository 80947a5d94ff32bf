/- Cells: writing a page, erasing a block. -/
import Derived.Test.YtpebaginkkbnpaaGreatSCellR
namespace Ev
open Go (IntKind)

/-- The bytes by which a page is kept. -/
def keptF (q : CeA) (seed : Int) (s : Bytes) : Bytes := if zbs s = 0 then List.replicate q.R 255 else rawF s q.W 8 seed
def progC (q : CeA) (t : Ce) (b p : Int) (d sp : Bytes) : Int × Ce :=
  if t.s.inE q.a b p ≠ 0 then (t.s.inE q.a b p, t)
  else if d.length ≠ q.S ∨ sp.length ≠ 32 then (1, t)
  else
    let r := t.s.progT q.a b p ((keptF q (t.seed + q.num b p) (d ++ sp)).take q.a.S) ((keptF q (t.seed + q.num b p) (d ++ sp)).drop q.a.S)
    (r.1, { t with s := r.2, X := if r.1 ≠ 52 then fun k => if k = q.num b p then none else t.X k else t.X })
def eraC (q : CeA) (t : Ce) (b : Int) : Int × Ce :=
  ((t.s.eraseT q.a b).1, { t with s := (t.s.eraseT q.a b).2, X := if (t.s.eraseT q.a b).1 = 0 then fun k => if q.num b 0 ≤ k ∧ k < q.num b 0 + q.a.P then none else t.X k else t.X })

section
variable {H : Heap} {q : CeA} {t : Ce} {D : Int}

theorem kept_len {s : Bytes} (hs : s.length = q.S + 32) (seed : Int) : (keptF q seed s).length = q.R := by
  unfold keptF
  split
  · simp
  · rw [rawF_len, hs]; rfl
theorem none_map (X : Int → Option Bytes) (a : Int) : (fun j => if j = a then none else (X j).map fun s => W.one (.str s)) = fun j => ((if j = a then none else X j : Option Bytes)).map fun s => W.one (.str s) := by
  funext j; split <;> rfl
theorem CeAt.del (h : CeAt H q t) (k : Int) : ∃ H', mdel H (some q.m) k = some H' ∧ CeAt H' q { t with X := fun j => if j = k then none else t.X j } ∧ Keep q.fp H H' := by
  obtain ⟨H', e1, e2, e3⟩ := h.mp.del k
  rw [none_map] at e2
  refine ⟨H', e1, h.flips e2 e3 fun j s hs => ?_, e3.mono fun j e => .inr (.inl e)⟩
  split at hs
  · cases hs
  · exact h.len j s hs

set_option maxHeartbeats 1000000 in
theorem ce_program (h : CeAt H q t) (w : Wf q.a t.s D) (b p : Int) (d sp : Bytes) (hd : d.length ≤ 1000000 ∧ sp.length ≤ 1000000) :
    ∃ H', cell_Cells_Program (some (q.c, 0)) b p d sp H = some (((progC q t b p d sp).1, ()), H') ∧ CeAt H' q (progC q t b p d sp).2 ∧ Keep q.fp H H' := by
  obtain ⟨H1, n1, n2, n3⟩ := nand_readT h.nd w b p
  have hC := h.keep n3 fun _ _ => id
  have k1 : Keep q.fp H H1 := n3.mono fun _ e => e.elim
  unfold progC cell_Cells_Program
  simp only [Option.isNone_some, cond_f, bind_some, h.rc, n1]
  by_cases he : t.s.inE q.a b p = 0
  case neg =>
    rw [if_pos he]
    have hrt : t.s.readT q.a b p = ([], [], t.s.inE q.a b p, ()) := by unfold Nd.readT; rw [if_pos he]
    rw [hrt]
    simp only [decide_eq_false he, Bool.not_false, cond_t]
    exact ⟨H1, rfl, hC, k1⟩
  rw [if_neg (by simpa using he)]
  have hrt : (t.s.readT q.a b p).2.2.1 = 0 := by unfold Nd.readT; rw [if_neg (by simpa using he)]
  rw [hrt]
  simp only [decide_true, Bool.not_true, cond_f, Nat.zero_add, hC.rS, bind_some]
  by_cases hl1 : d.length = q.S
  case neg =>
    rw [if_pos (.inl hl1), decide_eq_false (show ¬ ((d.length : Nat) : Int) = (q.S : Int) by omega)]
    exact ⟨H1, rfl, hC, k1⟩
  rw [decide_eq_true (show ((d.length : Nat) : Int) = (q.S : Int) by omega)]
  simp only [Bool.not_true, cond_f]
  by_cases hl2 : sp.length = 32
  case neg =>
    rw [if_pos (.inr hl2), decide_eq_false (show ¬ ((sp.length : Nat) : Int) = 32 by omega)]
    exact ⟨H1, rfl, hC, k1⟩
  rw [decide_eq_true (show ((sp.length : Nat) : Int) = 32 by omega), if_neg (by omega)]
  have hR := h.R_le
  have haS := h.aS
  obtain ⟨_, i, j, rfl, rfl, hi, hj⟩ := in_zero he
  have hsz := h.sz
  have hlen : (d ++ sp).length = q.S + 32 := by rw [List.length_append]; omega
  have hsh := h.sh
  rw [← hlen] at hsh
  have henc := wencode_eq hsh (t.seed + q.num i j)
  rw [hlen] at henc
  have henc' : weave_Encode (d ++ sp) ((q.W : Int), (q.D : Int), ((8 : Nat) : Int), (q.R : Int), ()) (t.seed + q.num i j) = some (rawF (d ++ sp) q.W 8 (t.seed + q.num i j), 0, ()) := henc
  have hmask := ce_mask hC (show 0 ≤ (i : Int) ∧ (i : Int) ≤ 1000 by omega) (show 0 ≤ (j : Int) ∧ (j : Int) ≤ 1000 by omega)
  have hcat : catS d sp = some (d ++ sp) := cat_of (by omega)
  have hkl := kept_len (q := q) hlen (t.seed + q.num i j)
  simp only [Bool.not_true, cond_f, hcat, bind_some, hC.rsh, shT_eq, hmask, henc', if_true, decide_true]
  -- what is written
  obtain ⟨G, hG, hGC, kG⟩ : ∃ G, ((weave_Erased (d ++ sp) 0).bind fun (r13 : Bool × Unit) =>
      cond r13.1 ((strOf (H1 ++ [Blk.cells [.int .u8 255] .exact]) ⟨some (H1.length, 0), 1, 1⟩).bind fun (s15 : Bytes) => (rdI .i64 (H1 ++ [Blk.cells [.int .u8 255] .exact]) q.c 7).bind fun (v17 : Int) => (strings_Repeat s15 v17).bind fun (r18 : Bytes × Unit) => some ((r18.1, ()), H1 ++ [Blk.cells [.int .u8 255] .exact]))
        (some ((rawF (d ++ sp) q.W 8 (t.seed + q.num i j), ()), H1)) : Option ((Bytes × Unit) × Heap)) = some ((keptF q (t.seed + q.num i j) (d ++ sp), ()), G) ∧ CeAt G q t ∧ Keep q.fp H1 G := by
    rw [erased_eq (d ++ sp) 0 (by omega)]
    unfold keptF
    by_cases hz : zbs (d ++ sp) = 0
    · rw [if_pos hz]
      have hC2 := hC.push (.cells [.int .u8 255] .exact)
      have st : strOf (H1 ++ [Blk.cells [.int .u8 255] .exact]) ⟨some (H1.length, 0), 1, 1⟩ = some [255] := strOf_of app_last (by simp) (by rfl)
      have rep : strings_Repeat [255] (q.R : Int) = some (List.replicate q.R 255, ()) := by rw [rep_of (by simp; omega) (by omega), flat1]
      refine ⟨_, ?_, hC2, Keep.push _ _ _⟩
      simp only [bind_some, decide_eq_true (show ((zbs (d ++ sp) : Nat) : Int) ≤ 0 by omega), cond_t, st, hC2.rR, rep]
    · rw [if_neg hz]
      refine ⟨H1, ?_, hC, Keep.refl _ _⟩
      simp only [bind_some, decide_eq_false (show ¬ ((zbs (d ++ sp) : Nat) : Int) ≤ 0 by omega), cond_f]
  rw [hG]
  obtain ⟨kept, hkept⟩ : ∃ x, x = keptF q (t.seed + q.num i j) (d ++ sp) := ⟨_, rfl⟩
  simp only [← hkept] at hkl ⊢
  have hsub : IntKind.wrap .i64 ((q.R : Int) - 32) = (q.a.S : Int) := by rw [wrap_i64 (by omega) (by omega)]; omega
  have s1 : subS kept 0 (q.a.S : Int) = some (kept.take q.a.S) := by
    have := sub_of (s := kept) (lo := 0) (hi := q.a.S) (by omega) (by omega)
    rw [List.drop_zero] at this
    exact this
  have s2 : subS kept (q.a.S : Int) (kept.length : Int) = some (kept.drop q.a.S) := by rw [sub_of (by omega) (Nat.le_refl _), List.take_length]
  obtain ⟨G2, p1, p2, p3⟩ := nand_programT hGC.nd w (i : Int) (j : Int) (kept.take q.a.S) (kept.drop q.a.S)
  have hC3 := hGC.chip p2 p3
  have k3 : Keep q.fp H G2 := (k1.trans kG).trans (p3.mono fun j e => .inr (.inr e))
  simp only [bind_some, hGC.rR, hsub, hGC.rc, s1, s2, p1]
  by_cases c52 : (t.s.progT q.a (i : Int) (j : Int) (kept.take q.a.S) (kept.drop q.a.S)).1 = 52
  · rw [decide_eq_true c52, if_neg (by simpa using c52)]
    exact ⟨G2, rfl, hC3, k3⟩
  · rw [decide_eq_false c52, if_pos c52]
    obtain ⟨G3, m1, m2, m3⟩ := hC3.del (q.num i j)
    simp only [Bool.not_false, cond_t, hC3.rm, bind_some, ce_at hC3 (show 0 ≤ (i : Int) ∧ (i : Int) ≤ 1000 by omega) (show 0 ≤ (j : Int) ∧ (j : Int) ≤ 1000 by omega), if_true, m1]
    exact ⟨G3, rfl, m2, k3.trans m3⟩
theorem program_nil (b p : Int) (d sp : Bytes) (H : Heap) : cell_Cells_Program none b p d sp H = some ((1, ()), H) := rfl

theorem ce_erase (h : CeAt H q t) (w : Wf q.a t.s D) (b : Int) : ∃ H', cell_Cells_Erase (some (q.c, 0)) b H = some (((eraC q t b).1, ()), H') ∧ CeAt H' q (eraC q t b).2 ∧ Keep q.fp H H' := by
  obtain ⟨H1, n1, n2, n3⟩ := nand_eraseT h.nd w b
  have hC := h.chip n2 n3
  have k1 : Keep q.fp H H1 := n3.mono fun _ e => .inr (.inr e)
  unfold eraC cell_Cells_Erase
  simp only [Option.isNone_some, cond_f, bind_some, h.rc, n1]
  by_cases h0 : (t.s.eraseT q.a b).1 = 0
  case neg =>
    rw [decide_eq_false h0, if_neg h0]
    exact ⟨H1, rfl, hC, k1⟩
  rw [decide_eq_true h0, if_pos h0]
  have he : t.s.inE q.a b 0 = 0 := by
    unfold Nd.eraseT at h0
    by_cases hh : t.s.inE q.a b 0 = 0
    · exact hh
    · rw [if_pos hh] at h0; exact absurd h0 hh
  obtain ⟨_, i, j, rfl, _, hi, hj⟩ := in_zero he
  have hsz := h.sz
  obtain ⟨x, G, l1, l2, l3⟩ := loop_rise (step := cell_Cells_Erase.s1 (some (q.c, 0)) (i : Int) (q.a.P : Int)) q.a.P
    (fun n y G => y = ((n : Int), ()) ∧ CeAt G q { t with s := (t.s.eraseT q.a i).2, X := fun k => if q.num i 0 ≤ k ∧ k < q.num i 0 + n then none else t.X k } ∧ Keep q.fp H1 G)
    (fun x G => CeAt G q { t with s := (t.s.eraseT q.a i).2, X := fun k => if q.num i 0 ≤ k ∧ k < q.num i 0 + q.a.P then none else t.X k } ∧ Keep q.fp H1 G)
    (by
      rintro n _ G hn ⟨rfl, g1, g2⟩
      obtain ⟨G2, e1, e2, e3⟩ := g1.del (q.num i n)
      refine .inl ⟨(((n + 1 : Nat) : Int), ()), G2, ?_, rfl, ?_, g2.trans e3⟩
      · unfold cell_Cells_Erase.s1
        simp only [decide_eq_true (show (n : Int) < (q.a.P : Int) by omega), cond_t, bind_some, Nat.zero_add, g1.rm, ce_at g1 (show 0 ≤ (i : Int) ∧ (i : Int) ≤ 1000 by omega) (show 0 ≤ (n : Int) ∧ (n : Int) ≤ 1000 by omega), if_true, e1, wrap_succ (show n < 9223372036854775807 by omega)]
      · have hf : (fun k => if q.num i 0 ≤ k ∧ k < q.num i 0 + ((n + 1 : Nat) : Int) then none else t.X k) = fun j => if j = q.num i n then none else (if q.num i 0 ≤ j ∧ j < q.num i 0 + (n : Int) then none else t.X j : Option Bytes) := by
          funext k
          have hnum : q.num (i : Int) (n : Int) = q.num i 0 + n := by unfold CeA.num; omega
          rw [hnum]
          by_cases c1 : k = q.num i 0 + n
          · rw [if_pos c1, if_pos (by omega)]
          · rw [if_neg c1]
            by_cases c2 : q.num i 0 ≤ k ∧ k < q.num i 0 + n
            · rw [if_pos c2, if_pos (by omega)]
            · rw [if_neg c2, if_neg (by omega)]
        rw [hf]
        exact e2)
    (by
      rintro _ G ⟨rfl, g1, g2⟩
      refine ⟨(), G, ?_, g1, g2⟩
      unfold cell_Cells_Erase.s1
      rw [decide_eq_false (show ¬ ((q.a.P : Nat) : Int) < (q.a.P : Int) by omega)]
      rfl)
    (y := (((0 : Nat) : Int), ())) (H := H1) ⟨rfl, by
      have hf : (fun k => if q.num i 0 ≤ k ∧ k < q.num i 0 + ((0 : Nat) : Int) then none else t.X k) = t.X := by
        funext k; rw [if_neg (by omega)]
      rw [hf]; exact hC, Keep.refl _ _⟩
  have l1' : loopW (cell_Cells_Erase.s1 (some (q.c, 0)) (i : Int) (q.a.P : Int)) (0, ()) H1 = some (x, G) := l1
  simp only [cond_t, bind_some, Nat.zero_add, hC.rP, l1']
  exact ⟨G, rfl, l2, k1.trans l3⟩
theorem erase_nil (b : Int) (H : Heap) : cell_Cells_Erase none b H = some ((1, ()), H) := rfl
end
end Ev
