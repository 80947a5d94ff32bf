/- Cells: bits turn when a page is read. -/
import Derived.Test.YtpebaginkkbnpaaGreatSCell
namespace Ev
open Go (IntKind)

def baseX (R : Nat) (o : Option Bytes) : Bytes := if o.getD [] = [] then List.replicate R 0 else o.getD []
def inN (q : CeA) (r : Int) (n : Noi) : Prop := n.1 = r ∧ 0 ≤ n.2.1 ∧ n.2.1 < (q.a.B : Int) ∧ 0 ≤ n.2.2.1 ∧ n.2.2.1 < (q.a.P : Int) ∧ 0 ≤ n.2.2.2.1 ∧ n.2.2.2.1 < (q.R : Int)
instance (q : CeA) (r : Int) (n : Noi) : Decidable (inN q r n) := by unfold inN; infer_instance
def flip1 (s : Bytes) (i : Nat) (v : UInt8) : Bytes := s.set i (co s i ^^^ v)
def stepX (q : CeA) (r : Int) (X : Int → Option Bytes) (n : Noi) : Int → Option Bytes :=
  if inN q r n then fun k => if k = q.num n.2.1 n.2.2.1 then some (flip1 (baseX q.R (X k)) n.2.2.2.1.toNat (UInt8.ofNat n.2.2.2.2.1.toNat)) else X k else X
def turnX (q : CeA) (r : Int) (X : Int → Option Bytes) (N : List Noi) : Int → Option Bytes := N.foldl (stepX q r) X

theorem baseX_len {R : Nat} {o : Option Bytes} (h : ∀ s, o = some s → s.length = R) : (baseX R o).length = R := by
  unfold baseX
  split
  · simp
  · rename_i hn
    cases o with
    | none => exact absurd rfl hn
    | some s => exact h s rfl
theorem stepX_len {q : CeA} {r : Int} {X : Int → Option Bytes} (h : ∀ k s, X k = some s → s.length = q.R) (n : Noi) : ∀ k s, stepX q r X n k = some s → s.length = q.R := by
  intro k s hs
  unfold stepX at hs
  split at hs
  · simp only at hs
    split at hs
    · cases hs
      unfold flip1
      rw [List.length_set]
      exact baseX_len (h k)
    · exact h k s hs
  · exact h k s hs
theorem flip_parts {s : Bytes} {i : Nat} (hi : i < s.length) (v : UInt8) : s.take i ++ [s[i] ^^^ v] ++ s.drop (i + 1) = flip1 s i v := by
  unfold flip1
  rw [List.set_eq_take_append_cons_drop, if_pos hi, co_lt hi, List.append_assoc]
  rfl

section
variable {H : Heap} {q : CeA} {t : Ce}
theorem CeAt.flips (h : CeAt H q t) {X' : Int → Option Bytes} {H' : Heap} (hm : MpAt H' q.m fun k => (X' k).map fun s => W.one (.str s)) (k : Keep (fun j => j = q.m) H H') (hl : ∀ k s, X' k = some s → s.length = q.R) :
    CeAt H' q { t with X := X' } :=
  { h with cell := k.get h.cell h.cm, nd := h.nd.keep k fun j hj e => h.mo (e ▸ hj), mp := hm, ns := h.ns.keep k fun b o hp e => h.nf b o hp (.inr (.inl e)), len := hl }
theorem CeAt.mget (h : CeAt H q t) (k : Int) : mget H (.one .str) (.one (.str [])) (some q.m) k = some ((t.X k).getD [], (t.X k).isSome) := by
  have := h.mp.get (ty := .one .str) (zero := .one (.str [])) (k := k) (v := (t.X k).getD []) (by cases t.X k <;> rfl)
  exact this.trans (by rw [Option.isSome_map]; rfl)

theorem noi_at (h : CeAt H q t) {i : Nat} (hi : i < t.N.length) : ∃ b o, Sl.at 5 q.ns (i : Int) = some (b, o) ∧ @Eq (Option (Int × Int × Int × Int × Int × Unit)) (rd H (.agg [.int .i64, .int .i64, .int .i64, .int .i64, .int .u8]) b o) (some t.N[i]) := by
  obtain ⟨b, o, _, h1, _, cs, bk, h2, h3, h4⟩ := Row.at (cts := noiT) h.ns hi (by decide)
  refine ⟨b, o, h1, rd_agg_of h2 h3 ?_⟩
  have h4' : (cs.drop o).take 5 = Tup.mk noiT t.N[i] := h4
  show Tup.un noiT ((cs.drop o).take 5) = some t.N[i]
  rw [h4']
  rfl
theorem noi_len (h : CeAt H q t) : q.ns.len = t.N.length := by
  have := h.ns.len
  have e : (noiC t.N).length = t.N.length * 5 := rowsC_length (cts := noiT) t.N
  omega

set_option maxHeartbeats 1000000 in
theorem turn_round (h : CeAt H q t) {i : Nat} (hi : i < t.N.length) : ∃ H', cell_Cells_turn.s1 (some (q.c, 0)) q.ns ((i : Int), ()) H = some (.inl (((i + 1 : Nat) : Int), ()), H') ∧
    CeAt H' q { t with X := stepX q t.reads t.X t.N[i] } ∧ Keep q.fp H H' := by
  obtain ⟨b, o, h1, h2⟩ := noi_at h hi
  have hlen := noi_len h
  have hsz := h.sz
  have hlt : decide ((i : Int) < (q.ns.len : Int)) = true := decide_eq_true (by omega)
  have hw := wrap_succ (show i < 9223372036854775807 by omega)
  have hnb := h.nb _ (List.getElem_mem hi)
  generalize t.N[i] = n at h2 hnb
  obtain ⟨nA, nB, nP, nY, nV, u⟩ := n
  simp only at hnb
  let z : List C := [.int .i64 0, .int .i64 0, .int .i64 0, .int .i64 0, .int .u8 0]
  let row : List C := [.int .i64 nA, .int .i64 nB, .int .i64 nP, .int .i64 nY, .int .u8 nV]
  have hwr : wr (H ++ [Blk.cells z .exact]) H.length 0 row = some (H ++ [.cells row .exact]) := wr_last (by decide) (by simp [z, row])
  have hG : (H ++ [Blk.cells row .exact])[H.length]? = some (.cells row .exact) := app_last
  have hC := h.push (.cells row .exact)
  have kG : Keep q.fp H (H ++ [Blk.cells row .exact]) := Keep.push _ _ _
  generalize hGG : H ++ [Blk.cells row .exact] = G at hwr hG hC kG
  have r0 : rdI .i64 G H.length 0 = some nA := rdI_of hG rfl
  have r1 : rdI .i64 G H.length 1 = some nB := rdI_of hG rfl
  have r2 : rdI .i64 G H.length 2 = some nP := rdI_of hG rfl
  have r3 : rdI .i64 G H.length 3 = some nY := rdI_of hG rfl
  have r4 : rdI .u8 G H.length 4 = some nV := rdI_of hG rfl
  unfold cell_Cells_turn.s1
  simp only [hlt, cond_t, h1, bind_some, h2]
  rw [show wr (H ++ [Blk.cells [C.int .i64 0, C.int .i64 0, C.int .i64 0, C.int .i64 0, C.int .u8 0] .exact]) H.length 0 [.int .i64 nA, .int .i64 nB, .int .i64 nP, .int .i64 nY, .int .u8 nV] = some G from hwr]
  simp only [bind_some, r0, Nat.zero_add, hC.rr, hw]
  have no : ¬ inN q t.reads (nA, nB, nP, nY, nV, u) → stepX q t.reads t.X (nA, nB, nP, nY, nV, u) = t.X := fun hh => if_neg hh
  have out : ¬ inN q t.reads (nA, nB, nP, nY, nV, u) → ∃ H', (some (Sum.inl (((i + 1 : Nat) : Int), ()), G) : Option (((Int × Unit) ⊕ Unit) × Heap)) = some (.inl (((i + 1 : Nat) : Int), ()), H') ∧
    CeAt H' q { t with X := stepX q t.reads t.X (nA, nB, nP, nY, nV, u) } ∧ Keep q.fp H H' := fun hh => ⟨G, rfl, by rw [no hh]; exact hC, kG⟩
  by_cases c1 : nA = t.reads
  case neg =>
    rw [decide_eq_false c1]; exact out fun hh => c1 hh.1
  rw [decide_eq_true c1]
  simp only [Bool.not_true, cond_f, r1, bind_some]
  by_cases c2 : nB < 0
  · rw [decide_eq_true c2]; exact out fun hh => by have := hh.2.1; simp only at this; omega
  rw [decide_eq_false c2]
  simp only [cond_f, hC.rB, bind_some]
  by_cases c3 : (q.a.B : Int) ≤ nB
  · rw [decide_eq_true c3]; exact out fun hh => by have := hh.2.2.1; simp only at this; omega
  rw [decide_eq_false c3]
  simp only [cond_f, r2, bind_some]
  by_cases c4 : nP < 0
  · rw [decide_eq_true c4]; exact out fun hh => by have := hh.2.2.2.1; simp only at this; omega
  rw [decide_eq_false c4]
  simp only [cond_f, hC.rP, bind_some]
  by_cases c5 : (q.a.P : Int) ≤ nP
  · rw [decide_eq_true c5]; exact out fun hh => by have := hh.2.2.2.2.1; simp only at this; omega
  rw [decide_eq_false c5]
  simp only [cond_f, r3, bind_some]
  by_cases c6 : nY < 0
  · rw [decide_eq_true c6]; exact out fun hh => by have := hh.2.2.2.2.2.1; simp only at this; omega
  rw [decide_eq_false c6]
  simp only [cond_f, hC.rR, bind_some]
  by_cases c7 : (q.R : Int) ≤ nY
  · rw [decide_eq_true c7]; exact out fun hh => by have := hh.2.2.2.2.2.2; simp only at this; omega
  rw [decide_eq_false c7]
  have hin : inN q t.reads (nA, nB, nP, nY, nV, u) := ⟨c1, by show 0 ≤ nB; omega, by show nB < (q.a.B : Int); omega, by show 0 ≤ nP; omega, by show nP < (q.a.P : Int); omega, by show 0 ≤ nY; omega, by show nY < (q.R : Int); omega⟩
  simp only [cond_f, bind_some, ce_at hC (show 0 ≤ nB ∧ nB ≤ 1000 by omega) (show 0 ≤ nP ∧ nP ≤ 1000 by omega), hC.rm, hC.mget, hC.rR]
  obtain ⟨y, rfl⟩ : ∃ y : Nat, nY = (y : Int) := ⟨nY.toNat, by omega⟩
  have hRle := hC.R_le
  -- what is turned
  have hbl := baseX_len (R := q.R) (o := t.X (q.num nB nP)) (hC.len _)
  have hbase : (cond (decide (((t.X (q.num nB nP)).getD [] : Bytes) = [])) ((strings_Repeat [0] (q.R : Int)).bind fun (r36 : Bytes × Unit) => some ((r36.1, ()), G)) (some (((t.X (q.num nB nP)).getD [], ()), G)) : Option ((Bytes × Unit) × Heap)) = some ((baseX q.R (t.X (q.num nB nP)), ()), G) := by
    unfold baseX
    by_cases ce : (t.X (q.num nB nP)).getD [] = []
    · rw [decide_eq_true ce, if_pos ce, rep_of (by simp; omega) (by omega), flat1]; rfl
    · rw [decide_eq_false ce, if_neg ce]; rfl
  rw [hbase]
  generalize hm : baseX q.R (t.X (q.num nB nP)) = m at hbl
  have hym : y < m.length := by omega
  have s1 : subS m 0 (y : Int) = some (m.take y) := by
    have := sub_of (s := m) (lo := 0) (hi := y) (by omega) (by omega)
    rw [List.drop_zero] at this
    exact this
  have s2 : subS m ((y + 1 : Nat) : Int) (m.length : Int) = some (m.drop (y + 1)) := by
    rw [sub_of (by omega) (Nat.le_refl _), List.take_length]
  have hv : bitsI .xor .u8 ((m[y].toNat : Nat) : Int) nV = un (m[y] ^^^ UInt8.ofNat nV.toNat) := by
    obtain ⟨v, rfl⟩ : ∃ v : Nat, nV = (v : Int) := ⟨nV.toNat, by omega⟩
    rw [xor8 (UInt8.toNat_lt _) (by omega), Int.toNat_natCast]
    show _ = (((m[y] ^^^ UInt8.ofNat v).toNat : Nat) : Int)
    rw [UInt8.toNat_xor, UInt8.toNat_ofNat', Nat.mod_eq_of_lt (by omega)]
  simp only [bind_some, hC.rm, r3, s1, idx_of hym, r4, hv]
  let g1 : Blk := .cells [.int .u8 (un (m[y] ^^^ UInt8.ofNat nV.toNat))] .exact
  have hC2 := hC.push g1
  have r3' : rdI .i64 (G ++ [g1]) H.length 3 = some (y : Int) := rdI_of (cs := row) (bk := .exact) (by rw [app_lt (by rw [← hGG]; simp)]; exact hG) rfl
  have st : strOf (G ++ [g1]) ⟨some (G.length, 0), 1, 1⟩ = some [m[y] ^^^ UInt8.ofNat nV.toNat] := strOf_of app_last (by simp) (by rfl)
  rw [show strOf (G ++ [Blk.cells [.int .u8 (un (m[y] ^^^ UInt8.ofNat nV.toNat))] .exact]) ⟨some (G.length, 0), 1, 1⟩ = some [m[y] ^^^ UInt8.ofNat nV.toNat] from st]
  rw [show rdI .i64 (G ++ [Blk.cells [.int .u8 (un (m[y] ^^^ UInt8.ofNat nV.toNat))] .exact]) H.length 3 = some (y : Int) from r3']
  have c1' : catS (m.take y) [m[y] ^^^ UInt8.ofNat nV.toNat] = some (m.take y ++ [m[y] ^^^ UInt8.ofNat nV.toNat]) := cat_of (by simp; omega)
  have c2' : catS (m.take y ++ [m[y] ^^^ UInt8.ofNat nV.toNat]) (m.drop (y + 1)) = some (flip1 m y (UInt8.ofNat nV.toNat)) := by rw [cat_of (by simp; omega), flip_parts hym]
  simp only [bind_some, c1', wrap_succ (show y < 9223372036854775807 by omega), s2, c2']
  obtain ⟨G2, e1, e2, e3⟩ := hC2.mp.set (q.num nB nP) (.one (.str (flip1 m y (UInt8.ofNat nV.toNat))))
  rw [show mset (G ++ [Blk.cells [.int .u8 (un (m[y] ^^^ UInt8.ofNat nV.toNat))] .exact]) (some q.m) (q.num nB nP) (.one (.str (flip1 m y (UInt8.ofNat nV.toNat)))) = some G2 from e1]
  refine ⟨G2, rfl, ?_, (kG.trans (Keep.push _ _ _)).trans (e3.mono fun j e => .inr (.inl e))⟩
  refine hC2.flips (X' := stepX q t.reads t.X (nA, nB, nP, (y : Int), nV, u)) ?_ e3 (stepX_len hC.len _)
  have hfe : (fun j => if j = q.num nB nP then some (W.one (.str (flip1 m y (UInt8.ofNat nV.toNat)))) else (t.X j).map fun s => W.one (.str s)) = fun k => (stepX q t.reads t.X (nA, nB, nP, (y : Int), nV, u) k).map fun s => W.one (.str s) := by
    funext j
    unfold stepX
    rw [if_pos hin]
    simp only
    by_cases ej : j = q.num nB nP
    · rw [if_pos ej, if_pos ej, ej, hm, Int.toNat_natCast]; rfl
    · rw [if_neg ej, if_neg ej]
  rw [← hfe]
  exact e2

/-- Turning. -/
theorem ce_turn (h : CeAt H q t) (hr : 0 ≤ t.reads ∧ t.reads ≤ 1000000000) : ∃ H', cell_Cells_turn (some (q.c, 0)) H = some ((), H') ∧
    CeAt H' q { t with reads := t.reads + 1, X := turnX q (t.reads + 1) t.X t.N } ∧ Keep q.fp H H' := by
  obtain ⟨H1, w1, w2, w3⟩ := h.wreads (t.reads + 1)
  have hl := noi_len h
  obtain ⟨x, G, l1, l2, l3⟩ := loop_rise (step := cell_Cells_turn.s1 (some (q.c, 0)) q.ns) t.N.length
    (fun i y G => y = ((i : Int), ()) ∧ CeAt G q { t with reads := t.reads + 1, X := turnX q (t.reads + 1) t.X (t.N.take i) } ∧ Keep q.fp H1 G)
    (fun x G => CeAt G q { t with reads := t.reads + 1, X := turnX q (t.reads + 1) t.X t.N } ∧ Keep q.fp H1 G)
    (by
      rintro i _ G hi ⟨rfl, g1, g2⟩
      obtain ⟨G2, e1, e2, e3⟩ := turn_round g1 (i := i) hi
      refine .inl ⟨_, G2, e1, rfl, ?_, g2.trans e3⟩
      have : turnX q (t.reads + 1) t.X (t.N.take (i + 1)) = stepX q (t.reads + 1) (turnX q (t.reads + 1) t.X (t.N.take i)) t.N[i] := by
        unfold turnX
        rw [List.take_succ_eq_append_getElem hi, List.foldl_append]
        rfl
      rw [this]
      exact e2)
    (by
      rintro _ G ⟨rfl, g1, g2⟩
      rw [List.take_length] at g1
      refine ⟨(), G, ?_, g1, g2⟩
      unfold cell_Cells_turn.s1
      rw [decide_eq_false (show ¬ ((t.N.length : Nat) : Int) < (q.ns.len : Int) by omega)]
      rfl)
    (y := (((0 : Nat) : Int), ())) (H := H1) ⟨rfl, w2, Keep.refl _ _⟩
  refine ⟨G, ?_, l2, w3.trans l3⟩
  unfold cell_Cells_turn
  have l1' : loopW (cell_Cells_turn.s1 (some (q.c, 0)) q.ns) (0, ()) H1 = some (x, G) := l1
  simp only [bind_some, Nat.zero_add, h.rr, wrap_i64 (n := t.reads + 1) (by omega) (by omega), w1, w2.rns, l1']
end
end Ev
