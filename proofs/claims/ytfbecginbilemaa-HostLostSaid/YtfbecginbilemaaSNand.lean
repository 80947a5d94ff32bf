/- The chip of package nand: how it stands in the heap, and what each of its functions does to it. -/
import Derived.Test.YtfbecginbilemaaGNand
import Derived.Test.YtfbecginbilemaaSSlices
namespace Ev
open Go (IntKind)

abbrev Cut := Int × Int × Int × Unit
def cutC (l : List Cut) : List C := rowsOf [.int .i64, .int .i64, .int .u8] l
def cut0 : Cut := (0, 0, 0, ())
def cutB (x : Cut) : Blk := .cells [.int .i64 x.1, .int .i64 x.2.1, .int .u8 x.2.2.1] .exact

/-- Where a chip stands, and how great it is. -/
structure NdA where
  c : Nat
  bb : Nat
  pb : Nat → Nat
  B : Nat
  P : Nat
  S : Nat
  cs : Sl
  fs : Sl
/-- What it has. -/
structure Nd where
  pages : Nat → Nat → Bytes
  worn : Nat → Int
  dead : Nat → Bool
  mark : Nat → Bool
  cuts : List Cut
  fails : List Int
  did : Int
  off : Bool

def NdA.cells (a : NdA) (s : Nd) : List C := [.int .i64 a.B, .int .i64 a.P, .int .i64 a.S, .sl 4 ⟨some (a.bb, 0), a.B, a.B⟩, .sl 3 a.cs, .sl 1 a.fs, .int .i64 s.did, .bool s.off]
def NdA.blk (a : NdA) (s : Nd) (i : Nat) : List C := [.sl 1 ⟨some (a.pb i, 0), a.P, a.P⟩, .int .i64 (s.worn i), .bool (s.dead i), .bool (s.mark i)]
def NdA.pg (s : Nd) (i : Nat) (p : Nat) : List C := [.str (s.pages i p)]
theorem blk_len (a : NdA) (s : Nd) : ∀ i, (a.blk s i).length = 4 := fun _ => rfl
theorem pg_len (s : Nd) (i : Nat) : ∀ p, (NdA.pg s i p).length = 1 := fun _ => rfl

/-- The blocks that its functions write. -/
def NdA.fp (a : NdA) (k : Nat) : Prop := k = a.c ∨ k = a.bb ∨ ∃ i, i < a.B ∧ k = a.pb i
/-- The blocks of which it is made. -/
def NdA.own (a : NdA) (k : Nat) : Prop := a.fp k ∨ (∃ o, a.cs.p = some (k, o)) ∨ ∃ o, a.fs.p = some (k, o)

structure NdAt (H : Heap) (a : NdA) (s : Nd) : Prop where
  cell : H[a.c]? = some (.cells (a.cells s) .exact)
  blks : H[a.bb]? = some (.cells (arrC a.B (a.blk s)) .exact)
  pgs : ∀ i, i < a.B → H[a.pb i]? = some (.cells (arrC a.P (NdA.pg s i)) .exact)
  cuts : Row H 3 a.cs (cutC s.cuts)
  fails : Row H 1 a.fs (intC s.fails)
  cb : a.c ≠ a.bb
  cp : ∀ i, i < a.B → a.c ≠ a.pb i
  bp : ∀ i, i < a.B → a.bb ≠ a.pb i
  pp : ∀ i j, i < a.B → j < a.B → a.pb i = a.pb j → i = j
  csn : ∀ k o, a.cs.p = some (k, o) → ¬ a.fp k
  fsn : ∀ k o, a.fs.p = some (k, o) → ¬ a.fp k
  sz : a.B ≤ 4294967296 ∧ a.P ≤ 4294967296 ∧ a.S ≤ 4294967296
  ln : s.cuts.length ≤ 1099511627776 ∧ s.fails.length ≤ 1099511627776

section
variable {H : Heap} {a : NdA} {s : Nd}

theorem NdAt.own_lt (h : NdAt H a s) {k : Nat} (hk : a.own k) : k < H.length := by
  rcases hk with (rfl | rfl | ⟨i, hi, rfl⟩) | ⟨o, ho⟩ | ⟨o, ho⟩
  · exact get_lt h.cell
  · exact get_lt h.blks
  · exact get_lt (h.pgs i hi)
  · exact h.cuts.lt ho
  · exact h.fails.lt ho
theorem NdAt.keep (h : NdAt H a s) {F : Nat → Prop} {H' : Heap} (k : Keep F H H') (hF : ∀ j, a.own j → ¬ F j) : NdAt H' a s where
  cell := k.get h.cell (hF _ (.inl (.inl rfl)))
  blks := k.get h.blks (hF _ (.inl (.inr (.inl rfl))))
  pgs := fun i hi => k.get (h.pgs i hi) (hF _ (.inl (.inr (.inr ⟨i, hi, rfl⟩))))
  cuts := h.cuts.keep k fun b o hp => hF _ (.inr (.inl ⟨o, hp⟩))
  fails := h.fails.keep k fun b o hp => hF _ (.inr (.inr ⟨o, hp⟩))
  cb := h.cb
  cp := h.cp
  bp := h.bp
  pp := h.pp
  csn := h.csn
  fsn := h.fsn
  sz := h.sz
  ln := h.ln
theorem NdAt.push (h : NdAt H a s) (x : Blk) : NdAt (H ++ [x]) a s := h.keep (Keep.push (fun _ => False) H x) fun _ _ => id

/-! Reads. -/
theorem NdAt.rB (h : NdAt H a s) : rdI .i64 H a.c 0 = some (a.B : Int) := rdI_of h.cell rfl
theorem NdAt.rP (h : NdAt H a s) : rdI .i64 H a.c 1 = some (a.P : Int) := rdI_of h.cell rfl
theorem NdAt.rS (h : NdAt H a s) : rdI .i64 H a.c 2 = some (a.S : Int) := rdI_of h.cell rfl
theorem NdAt.rbb (h : NdAt H a s) : rdSl 4 H a.c 3 = some ⟨some (a.bb, 0), a.B, a.B⟩ := rdSl_of h.cell rfl
theorem NdAt.rcs (h : NdAt H a s) : rdSl 3 H a.c 4 = some a.cs := rdSl_of h.cell rfl
theorem NdAt.rfs (h : NdAt H a s) : rdSl 1 H a.c 5 = some a.fs := rdSl_of h.cell rfl
theorem NdAt.rdid (h : NdAt H a s) : rdI .i64 H a.c 6 = some s.did := rdI_of h.cell rfl
theorem NdAt.roff (h : NdAt H a s) : rdB H a.c 7 = some s.off := rdB_of h.cell rfl
theorem NdAt.atb (i : Nat) (hi : i < a.B) : Sl.at 4 ⟨some (a.bb, 0), a.B, a.B⟩ (i : Int) = some (a.bb, i * 4) := by
  rw [at_of (by omega) (by omega), Int.toNat_natCast, Nat.zero_add]
theorem NdAt.atp (i p : Nat) (hp : p < a.P) : Sl.at 1 ⟨some (a.pb i, 0), a.P, a.P⟩ (p : Int) = some (a.pb i, p) := by
  rw [at_of (by omega) (by omega), Int.toNat_natCast, Nat.zero_add, Nat.mul_one]
theorem NdAt.bget (i j : Nat) (hi : i < a.B) (hj : j < 4) : (arrC a.B (a.blk s))[i * 4 + j]? = (a.blk s i)[j]? := arrC_get (blk_len a s) hj hi
theorem NdAt.rpb (h : NdAt H a s) {i : Nat} (hi : i < a.B) : rdSl 1 H a.bb (i * 4) = some ⟨some (a.pb i, 0), a.P, a.P⟩ := rdSl_of h.blks (by rw [show i * 4 = i * 4 + 0 from rfl, NdAt.bget i 0 hi (by decide)]; rfl)
theorem NdAt.rworn (h : NdAt H a s) {i : Nat} (hi : i < a.B) : rdI .i64 H a.bb (i * 4 + 1) = some (s.worn i) := rdI_of h.blks (by rw [NdAt.bget i 1 hi (by decide)]; rfl)
theorem NdAt.rdead (h : NdAt H a s) {i : Nat} (hi : i < a.B) : rdB H a.bb (i * 4 + 2) = some (s.dead i) := rdB_of h.blks (by rw [NdAt.bget i 2 hi (by decide)]; rfl)
theorem NdAt.rmark (h : NdAt H a s) {i : Nat} (hi : i < a.B) : rdB H a.bb (i * 4 + 3) = some (s.mark i) := rdB_of h.blks (by rw [NdAt.bget i 3 hi (by decide)]; rfl)
theorem NdAt.rblk (h : NdAt H a s) {i : Nat} (hi : i < a.B) : @Eq (Option (Sl × Int × Bool × Bool × Unit)) (rd H (.agg [.sl 1, .int .i64, .bool, .bool]) a.bb (i * 4)) (some (⟨some (a.pb i, 0), a.P, a.P⟩, s.worn i, s.dead i, s.mark i, ())) := by
  have hl := lt_mul (j := 3) hi (show 3 < 4 by decide)
  refine rd_agg_of (cs := arrC a.B (a.blk s)) h.blks (by rw [arrC_length (blk_len a s)]; simp; omega) ?_
  rw [show ([CT.sl 1, CT.int .i64, CT.bool, CT.bool] : List CT).length = 4 from rfl, arrC_drop_take (blk_len a s) (Nat.le_refl _) hi]
  simp [NdA.blk, Tup.un, CT.un]
  rfl
theorem NdAt.rpage (h : NdAt H a s) {i p : Nat} (hi : i < a.B) (hp : p < a.P) : rdS H (a.pb i) p = some (s.pages i p) := by
  refine rdS_of (h.pgs i hi) ?_
  have := arrC_get (pg_len s i) (j := 0) (by decide) hp
  simp only [Nat.mul_one, Nat.add_zero] at this
  rw [this]; rfl
theorem NdAt.rgeo (h : NdAt H a s) : @Eq (Option (Int × Int × Int × Unit)) (rd H (.agg [.int .i64, .int .i64, .int .i64]) a.c 0) (some (a.B, a.P, a.S, ())) := by
  refine rd_agg_of h.cell (by simp [NdA.cells]) ?_
  simp [NdA.cells, Tup.un, CT.un]
  rfl

/-! Writes. -/
theorem NdAt.wdid (h : NdAt H a s) (v : Int) : ∃ H', wr H a.c 6 [.int .i64 v] = some H' ∧ NdAt H' a { s with did := v } ∧ Keep a.fp H H' := by
  have hk : Keep (fun k => k = a.c) H (H.set a.c (.cells ((a.cells s).set 6 (.int .i64 v)) .exact)) := Keep.set _ _ _ rfl
  refine ⟨_, wr1_of h.cell (by decide) (by simp [NdA.cells]), ?_, hk.mono fun k e => .inl e⟩
  exact { cell := by rw [set_get (get_lt h.cell)]; rfl, blks := hk.get h.blks (fun e => h.cb e.symm), pgs := fun i hi => hk.get (h.pgs i hi) (fun e => h.cp i hi e.symm),
          cuts := h.cuts.keep hk fun b o hp e => h.csn b o hp (.inl e), fails := h.fails.keep hk fun b o hp e => h.fsn b o hp (.inl e), cb := h.cb, cp := h.cp, bp := h.bp, pp := h.pp, csn := h.csn, fsn := h.fsn, sz := h.sz, ln := h.ln }
theorem NdAt.woff (h : NdAt H a s) (v : Bool) : ∃ H', wr H a.c 7 [.bool v] = some H' ∧ NdAt H' a { s with off := v } ∧ Keep a.fp H H' := by
  have hk : Keep (fun k => k = a.c) H (H.set a.c (.cells ((a.cells s).set 7 (.bool v)) .exact)) := Keep.set _ _ _ rfl
  refine ⟨_, wr1_of h.cell (by decide) (by simp [NdA.cells]), ?_, hk.mono fun k e => .inl e⟩
  exact { cell := by rw [set_get (get_lt h.cell)]; rfl, blks := hk.get h.blks (fun e => h.cb e.symm), pgs := fun i hi => hk.get (h.pgs i hi) (fun e => h.cp i hi e.symm),
          cuts := h.cuts.keep hk fun b o hp e => h.csn b o hp (.inl e), fails := h.fails.keep hk fun b o hp e => h.fsn b o hp (.inl e), cb := h.cb, cp := h.cp, bp := h.bp, pp := h.pp, csn := h.csn, fsn := h.fsn, sz := h.sz, ln := h.ln }
/-- A write into the row of blocks. -/
theorem NdAt.wblk (h : NdAt H a s) {i j : Nat} (hi : i < a.B) (hj : j < 4) (v : C) (s' : Nd) (hc : a.cells s' = a.cells s) (hp : ∀ i, NdA.pg s' i = NdA.pg s i) (h1 : s'.cuts = s.cuts) (h2 : s'.fails = s.fails)
    (hb : ∀ k, k < a.B → a.blk s' k = if k = i then (a.blk s i).set j v else a.blk s k) : ∃ H', wr H a.bb (i * 4 + j) [v] = some H' ∧ NdAt H' a s' ∧ Keep a.fp H H' := by
  have hk : Keep (fun k => k = a.bb) H (H.set a.bb (.cells ((arrC a.B (a.blk s)).set (i * 4 + j) v) .exact)) := Keep.set _ _ _ rfl
  refine ⟨_, wr1_of h.blks (by decide) (by rw [arrC_length (blk_len a s)]; exact lt_mul hi hj), ?_, hk.mono fun k e => .inr (.inl e)⟩
  refine { cell := ?_, blks := ?_, pgs := fun i hi => ?_, cuts := ?_, fails := ?_, cb := h.cb, cp := h.cp, bp := h.bp, pp := h.pp, csn := h.csn, fsn := h.fsn, sz := h.sz, ln := by rw [h1, h2]; exact h.ln }
  · rw [hc]; exact hk.get h.cell h.cb
  · rw [set_get (get_lt h.blks), arrC_set (blk_len a s) hj v hi, arrC_congr hb]
  · rw [hp]; exact hk.get (h.pgs i hi) (fun e => h.bp i hi e.symm)
  · rw [h1]; exact h.cuts.keep hk fun b o hp e => h.csn b o hp (.inr (.inl e))
  · rw [h2]; exact h.fails.keep hk fun b o hp e => h.fsn b o hp (.inr (.inl e))

def upd {α : Type} (f : Nat → α) (i : Nat) (v : α) : Nat → α := fun k => if k = i then v else f k
def upd2 {α : Type} (f : Nat → Nat → α) (i p : Nat) (v : α) : Nat → Nat → α := fun k q => if k = i ∧ q = p then v else f k q

theorem NdAt.wworn (h : NdAt H a s) {i : Nat} (hi : i < a.B) (v : Int) : ∃ H', wr H a.bb (i * 4 + 1) [.int .i64 v] = some H' ∧ NdAt H' a { s with worn := upd s.worn i v } ∧ Keep a.fp H H' :=
  h.wblk hi (by decide) _ { s with worn := upd s.worn i v } rfl (fun _ => rfl) rfl rfl fun k _ => by
    by_cases e : k = i
    · subst e; simp [NdA.blk, upd]
    · simp [NdA.blk, upd, e]
theorem NdAt.wdead (h : NdAt H a s) {i : Nat} (hi : i < a.B) (v : Bool) : ∃ H', wr H a.bb (i * 4 + 2) [.bool v] = some H' ∧ NdAt H' a { s with dead := upd s.dead i v } ∧ Keep a.fp H H' :=
  h.wblk hi (by decide) _ { s with dead := upd s.dead i v } rfl (fun _ => rfl) rfl rfl fun k _ => by
    by_cases e : k = i
    · subst e; simp [NdA.blk, upd]
    · simp [NdA.blk, upd, e]
theorem NdAt.wmark (h : NdAt H a s) {i : Nat} (hi : i < a.B) (v : Bool) : ∃ H', wr H a.bb (i * 4 + 3) [.bool v] = some H' ∧ NdAt H' a { s with mark := upd s.mark i v } ∧ Keep a.fp H H' :=
  h.wblk hi (by decide) _ { s with mark := upd s.mark i v } rfl (fun _ => rfl) rfl rfl fun k _ => by
    by_cases e : k = i
    · subst e; simp [NdA.blk, upd]
    · simp [NdA.blk, upd, e]
theorem NdAt.wpage (h : NdAt H a s) {i p : Nat} (hi : i < a.B) (hp : p < a.P) (v : Bytes) : ∃ H', wr H (a.pb i) p [.str v] = some H' ∧ NdAt H' a { s with pages := upd2 s.pages i p v } ∧ Keep a.fp H H' := by
  have hk : Keep (fun k => k = a.pb i) H (H.set (a.pb i) (.cells ((arrC a.P (NdA.pg s i)).set p (.str v)) .exact)) := Keep.set _ _ _ rfl
  refine ⟨_, wr1_of (h.pgs i hi) (by decide) (by rw [arrC_length (pg_len s i)]; omega), ?_, hk.mono fun k e => .inr (.inr ⟨i, hi, e⟩)⟩
  refine { cell := hk.get h.cell (h.cp i hi), blks := hk.get h.blks (h.bp i hi), pgs := fun j hj => ?_, cuts := ?_, fails := ?_, cb := h.cb, cp := h.cp, bp := h.bp, pp := h.pp, csn := h.csn, fsn := h.fsn, sz := h.sz, ln := h.ln }
  · by_cases e : j = i
    · subst e
      rw [set_get (get_lt (h.pgs j hj))]
      have := arrC_set (pg_len s j) (j := 0) (by decide) (.str v) hp
      simp only [Nat.mul_one, Nat.add_zero] at this
      rw [this]
      congr 2
      refine arrC_congr fun k _ => ?_
      by_cases e2 : k = p
      · subst e2; simp [NdA.pg, upd2]
      · simp [NdA.pg, upd2, e2]
    · rw [hk.get (h.pgs j hj) (fun e2 => e (h.pp j i hj hi e2))]
      congr 2
      refine arrC_congr fun k _ => ?_
      simp [NdA.pg, upd2, e]
  · exact h.cuts.keep hk fun b o hp e => h.csn b o hp (.inr (.inr ⟨i, hi, e⟩))
  · exact h.fails.keep hk fun b o hp e => h.fsn b o hp (.inr (.inr ⟨i, hi, e⟩))
end
end Ev
