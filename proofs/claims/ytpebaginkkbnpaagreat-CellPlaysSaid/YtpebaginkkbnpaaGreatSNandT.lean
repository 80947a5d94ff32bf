/- The chip of package nand: how it stands in the heap, and what each of its functions does to it. What each function of the chip tells and does. The chip: Program, Read, Erase, Mark and the like. The chip: New, Arm, Dead, Worn, Geometry, and no chip. The chip: Dead. A new chip; faults that come later. A new chip as a whole; Arm. Pages of a chip: erased, or whole texts. The chip: whatever is asked, in one statement for each function. -/
import Derived.Test.YtpebaginkkbnpaaGreatGNand
import Derived.Test.YtpebaginkkbnpaaGreatSSlices
namespace Ev
open Go (IntKind)

abbrev Cut := Int × Int × Int × Unit
def cutC (l : List Cut) : List C := rowsOf [.int .i64, .int .i64, .int .u8] l
def cut0 : Cut := (0, 0, 0, ())
def cutB (x : Cut) : Blk := .cells [.int .i64 x.1, .int .i64 x.2.1, .int .u8 x.2.2.1] .exact

/-- Where a chip stands, and how great it is. -/
structure NdA where
  c : Nat
  bb : Nat
  pb : Nat → Nat
  B : Nat
  P : Nat
  S : Nat
  cs : Sl
  fs : Sl
/-- What it has. -/
structure Nd where
  pages : Nat → Nat → Bytes
  worn : Nat → Int
  dead : Nat → Bool
  mark : Nat → Bool
  cuts : List Cut
  fails : List Int
  did : Int
  off : Bool

def NdA.cells (a : NdA) (s : Nd) : List C := [.int .i64 a.B, .int .i64 a.P, .int .i64 a.S, .sl 4 ⟨some (a.bb, 0), a.B, a.B⟩, .sl 3 a.cs, .sl 1 a.fs, .int .i64 s.did, .bool s.off]
def NdA.blk (a : NdA) (s : Nd) (i : Nat) : List C := [.sl 1 ⟨some (a.pb i, 0), a.P, a.P⟩, .int .i64 (s.worn i), .bool (s.dead i), .bool (s.mark i)]
def NdA.pg (s : Nd) (i : Nat) (p : Nat) : List C := [.str (s.pages i p)]
theorem blk_len (a : NdA) (s : Nd) : ∀ i, (a.blk s i).length = 4 := fun _ => rfl
theorem pg_len (s : Nd) (i : Nat) : ∀ p, (NdA.pg s i p).length = 1 := fun _ => rfl

/-- The blocks that its functions write. -/
def NdA.fp (a : NdA) (k : Nat) : Prop := k = a.c ∨ k = a.bb ∨ ∃ i, i < a.B ∧ k = a.pb i
/-- The blocks of which it is made. -/
def NdA.own (a : NdA) (k : Nat) : Prop := a.fp k ∨ (∃ o, a.cs.p = some (k, o)) ∨ ∃ o, a.fs.p = some (k, o)

structure NdAt (H : Heap) (a : NdA) (s : Nd) : Prop where
  cell : H[a.c]? = some (.cells (a.cells s) .exact)
  blks : H[a.bb]? = some (.cells (arrC a.B (a.blk s)) .exact)
  pgs : ∀ i, i < a.B → H[a.pb i]? = some (.cells (arrC a.P (NdA.pg s i)) .exact)
  cuts : Row H 3 a.cs (cutC s.cuts)
  fails : Row H 1 a.fs (intC s.fails)
  cb : a.c ≠ a.bb
  cp : ∀ i, i < a.B → a.c ≠ a.pb i
  bp : ∀ i, i < a.B → a.bb ≠ a.pb i
  pp : ∀ i j, i < a.B → j < a.B → a.pb i = a.pb j → i = j
  csn : ∀ k o, a.cs.p = some (k, o) → ¬ a.fp k
  fsn : ∀ k o, a.fs.p = some (k, o) → ¬ a.fp k
  sz : a.B ≤ 4294967296 ∧ a.P ≤ 4294967296 ∧ a.S ≤ 4294967296
  ln : s.cuts.length ≤ 1099511627776 ∧ s.fails.length ≤ 1099511627776

section
variable {H : Heap} {a : NdA} {s : Nd}

theorem NdAt.own_lt (h : NdAt H a s) {k : Nat} (hk : a.own k) : k < H.length := by
  rcases hk with (rfl | rfl | ⟨i, hi, rfl⟩) | ⟨o, ho⟩ | ⟨o, ho⟩
  · exact get_lt h.cell
  · exact get_lt h.blks
  · exact get_lt (h.pgs i hi)
  · exact h.cuts.lt ho
  · exact h.fails.lt ho
theorem NdAt.keep (h : NdAt H a s) {F : Nat → Prop} {H' : Heap} (k : Keep F H H') (hF : ∀ j, a.own j → ¬ F j) : NdAt H' a s where
  cell := k.get h.cell (hF _ (.inl (.inl rfl)))
  blks := k.get h.blks (hF _ (.inl (.inr (.inl rfl))))
  pgs := fun i hi => k.get (h.pgs i hi) (hF _ (.inl (.inr (.inr ⟨i, hi, rfl⟩))))
  cuts := h.cuts.keep k fun b o hp => hF _ (.inr (.inl ⟨o, hp⟩))
  fails := h.fails.keep k fun b o hp => hF _ (.inr (.inr ⟨o, hp⟩))
  cb := h.cb
  cp := h.cp
  bp := h.bp
  pp := h.pp
  csn := h.csn
  fsn := h.fsn
  sz := h.sz
  ln := h.ln
theorem NdAt.push (h : NdAt H a s) (x : Blk) : NdAt (H ++ [x]) a s := h.keep (Keep.push (fun _ => False) H x) fun _ _ => id

/-! Reads. -/
theorem NdAt.rB (h : NdAt H a s) : rdI .i64 H a.c 0 = some (a.B : Int) := rdI_of h.cell rfl
theorem NdAt.rP (h : NdAt H a s) : rdI .i64 H a.c 1 = some (a.P : Int) := rdI_of h.cell rfl
theorem NdAt.rS (h : NdAt H a s) : rdI .i64 H a.c 2 = some (a.S : Int) := rdI_of h.cell rfl
theorem NdAt.rbb (h : NdAt H a s) : rdSl 4 H a.c 3 = some ⟨some (a.bb, 0), a.B, a.B⟩ := rdSl_of h.cell rfl
theorem NdAt.rcs (h : NdAt H a s) : rdSl 3 H a.c 4 = some a.cs := rdSl_of h.cell rfl
theorem NdAt.rfs (h : NdAt H a s) : rdSl 1 H a.c 5 = some a.fs := rdSl_of h.cell rfl
theorem NdAt.rdid (h : NdAt H a s) : rdI .i64 H a.c 6 = some s.did := rdI_of h.cell rfl
theorem NdAt.roff (h : NdAt H a s) : rdB H a.c 7 = some s.off := rdB_of h.cell rfl
theorem NdAt.atb (i : Nat) (hi : i < a.B) : Sl.at 4 ⟨some (a.bb, 0), a.B, a.B⟩ (i : Int) = some (a.bb, i * 4) := by
  rw [at_of (by omega) (by omega), Int.toNat_natCast, Nat.zero_add]
theorem NdAt.atp (i p : Nat) (hp : p < a.P) : Sl.at 1 ⟨some (a.pb i, 0), a.P, a.P⟩ (p : Int) = some (a.pb i, p) := by
  rw [at_of (by omega) (by omega), Int.toNat_natCast, Nat.zero_add, Nat.mul_one]
theorem NdAt.bget (i j : Nat) (hi : i < a.B) (hj : j < 4) : (arrC a.B (a.blk s))[i * 4 + j]? = (a.blk s i)[j]? := arrC_get (blk_len a s) hj hi
theorem NdAt.rpb (h : NdAt H a s) {i : Nat} (hi : i < a.B) : rdSl 1 H a.bb (i * 4) = some ⟨some (a.pb i, 0), a.P, a.P⟩ := rdSl_of h.blks (by rw [show i * 4 = i * 4 + 0 from rfl, NdAt.bget i 0 hi (by decide)]; rfl)
theorem NdAt.rworn (h : NdAt H a s) {i : Nat} (hi : i < a.B) : rdI .i64 H a.bb (i * 4 + 1) = some (s.worn i) := rdI_of h.blks (by rw [NdAt.bget i 1 hi (by decide)]; rfl)
theorem NdAt.rdead (h : NdAt H a s) {i : Nat} (hi : i < a.B) : rdB H a.bb (i * 4 + 2) = some (s.dead i) := rdB_of h.blks (by rw [NdAt.bget i 2 hi (by decide)]; rfl)
theorem NdAt.rmark (h : NdAt H a s) {i : Nat} (hi : i < a.B) : rdB H a.bb (i * 4 + 3) = some (s.mark i) := rdB_of h.blks (by rw [NdAt.bget i 3 hi (by decide)]; rfl)
theorem NdAt.rblk (h : NdAt H a s) {i : Nat} (hi : i < a.B) : @Eq (Option (Sl × Int × Bool × Bool × Unit)) (rd H (.agg [.sl 1, .int .i64, .bool, .bool]) a.bb (i * 4)) (some (⟨some (a.pb i, 0), a.P, a.P⟩, s.worn i, s.dead i, s.mark i, ())) := by
  have hl := lt_mul (j := 3) hi (show 3 < 4 by decide)
  refine rd_agg_of (cs := arrC a.B (a.blk s)) h.blks (by rw [arrC_length (blk_len a s)]; simp; omega) ?_
  rw [show ([CT.sl 1, CT.int .i64, CT.bool, CT.bool] : List CT).length = 4 from rfl, arrC_drop_take (blk_len a s) (Nat.le_refl _) hi]
  simp [NdA.blk, Tup.un, CT.un]
  rfl
theorem NdAt.rpage (h : NdAt H a s) {i p : Nat} (hi : i < a.B) (hp : p < a.P) : rdS H (a.pb i) p = some (s.pages i p) := by
  refine rdS_of (h.pgs i hi) ?_
  have := arrC_get (pg_len s i) (j := 0) (by decide) hp
  simp only [Nat.mul_one, Nat.add_zero] at this
  rw [this]; rfl
theorem NdAt.rgeo (h : NdAt H a s) : @Eq (Option (Int × Int × Int × Unit)) (rd H (.agg [.int .i64, .int .i64, .int .i64]) a.c 0) (some (a.B, a.P, a.S, ())) := by
  refine rd_agg_of h.cell (by simp [NdA.cells]) ?_
  simp [NdA.cells, Tup.un, CT.un]
  rfl

/-! Writes. -/
theorem NdAt.wdid (h : NdAt H a s) (v : Int) : ∃ H', wr H a.c 6 [.int .i64 v] = some H' ∧ NdAt H' a { s with did := v } ∧ Keep a.fp H H' := by
  have hk : Keep (fun k => k = a.c) H (H.set a.c (.cells ((a.cells s).set 6 (.int .i64 v)) .exact)) := Keep.set _ _ _ rfl
  refine ⟨_, wr1_of h.cell (by decide) (by simp [NdA.cells]), ?_, hk.mono fun k e => .inl e⟩
  exact { cell := by rw [set_get (get_lt h.cell)]; rfl, blks := hk.get h.blks (fun e => h.cb e.symm), pgs := fun i hi => hk.get (h.pgs i hi) (fun e => h.cp i hi e.symm),
          cuts := h.cuts.keep hk fun b o hp e => h.csn b o hp (.inl e), fails := h.fails.keep hk fun b o hp e => h.fsn b o hp (.inl e), cb := h.cb, cp := h.cp, bp := h.bp, pp := h.pp, csn := h.csn, fsn := h.fsn, sz := h.sz, ln := h.ln }
theorem NdAt.woff (h : NdAt H a s) (v : Bool) : ∃ H', wr H a.c 7 [.bool v] = some H' ∧ NdAt H' a { s with off := v } ∧ Keep a.fp H H' := by
  have hk : Keep (fun k => k = a.c) H (H.set a.c (.cells ((a.cells s).set 7 (.bool v)) .exact)) := Keep.set _ _ _ rfl
  refine ⟨_, wr1_of h.cell (by decide) (by simp [NdA.cells]), ?_, hk.mono fun k e => .inl e⟩
  exact { cell := by rw [set_get (get_lt h.cell)]; rfl, blks := hk.get h.blks (fun e => h.cb e.symm), pgs := fun i hi => hk.get (h.pgs i hi) (fun e => h.cp i hi e.symm),
          cuts := h.cuts.keep hk fun b o hp e => h.csn b o hp (.inl e), fails := h.fails.keep hk fun b o hp e => h.fsn b o hp (.inl e), cb := h.cb, cp := h.cp, bp := h.bp, pp := h.pp, csn := h.csn, fsn := h.fsn, sz := h.sz, ln := h.ln }
/-- A write into the row of blocks. -/
theorem NdAt.wblk (h : NdAt H a s) {i j : Nat} (hi : i < a.B) (hj : j < 4) (v : C) (s' : Nd) (hc : a.cells s' = a.cells s) (hp : ∀ i, NdA.pg s' i = NdA.pg s i) (h1 : s'.cuts = s.cuts) (h2 : s'.fails = s.fails)
    (hb : ∀ k, k < a.B → a.blk s' k = if k = i then (a.blk s i).set j v else a.blk s k) : ∃ H', wr H a.bb (i * 4 + j) [v] = some H' ∧ NdAt H' a s' ∧ Keep a.fp H H' := by
  have hk : Keep (fun k => k = a.bb) H (H.set a.bb (.cells ((arrC a.B (a.blk s)).set (i * 4 + j) v) .exact)) := Keep.set _ _ _ rfl
  refine ⟨_, wr1_of h.blks (by decide) (by rw [arrC_length (blk_len a s)]; exact lt_mul hi hj), ?_, hk.mono fun k e => .inr (.inl e)⟩
  refine { cell := ?_, blks := ?_, pgs := fun i hi => ?_, cuts := ?_, fails := ?_, cb := h.cb, cp := h.cp, bp := h.bp, pp := h.pp, csn := h.csn, fsn := h.fsn, sz := h.sz, ln := by rw [h1, h2]; exact h.ln }
  · rw [hc]; exact hk.get h.cell h.cb
  · rw [set_get (get_lt h.blks), arrC_set (blk_len a s) hj v hi, arrC_congr hb]
  · rw [hp]; exact hk.get (h.pgs i hi) (fun e => h.bp i hi e.symm)
  · rw [h1]; exact h.cuts.keep hk fun b o hp e => h.csn b o hp (.inr (.inl e))
  · rw [h2]; exact h.fails.keep hk fun b o hp e => h.fsn b o hp (.inr (.inl e))

def upd {α : Type} (f : Nat → α) (i : Nat) (v : α) : Nat → α := fun k => if k = i then v else f k
def upd2 {α : Type} (f : Nat → Nat → α) (i p : Nat) (v : α) : Nat → Nat → α := fun k q => if k = i ∧ q = p then v else f k q

theorem NdAt.wworn (h : NdAt H a s) {i : Nat} (hi : i < a.B) (v : Int) : ∃ H', wr H a.bb (i * 4 + 1) [.int .i64 v] = some H' ∧ NdAt H' a { s with worn := upd s.worn i v } ∧ Keep a.fp H H' :=
  h.wblk hi (by decide) _ { s with worn := upd s.worn i v } rfl (fun _ => rfl) rfl rfl fun k _ => by
    by_cases e : k = i
    · subst e; simp [NdA.blk, upd]
    · simp [NdA.blk, upd, e]
theorem NdAt.wdead (h : NdAt H a s) {i : Nat} (hi : i < a.B) (v : Bool) : ∃ H', wr H a.bb (i * 4 + 2) [.bool v] = some H' ∧ NdAt H' a { s with dead := upd s.dead i v } ∧ Keep a.fp H H' :=
  h.wblk hi (by decide) _ { s with dead := upd s.dead i v } rfl (fun _ => rfl) rfl rfl fun k _ => by
    by_cases e : k = i
    · subst e; simp [NdA.blk, upd]
    · simp [NdA.blk, upd, e]
theorem NdAt.wmark (h : NdAt H a s) {i : Nat} (hi : i < a.B) (v : Bool) : ∃ H', wr H a.bb (i * 4 + 3) [.bool v] = some H' ∧ NdAt H' a { s with mark := upd s.mark i v } ∧ Keep a.fp H H' :=
  h.wblk hi (by decide) _ { s with mark := upd s.mark i v } rfl (fun _ => rfl) rfl rfl fun k _ => by
    by_cases e : k = i
    · subst e; simp [NdA.blk, upd]
    · simp [NdA.blk, upd, e]
theorem NdAt.wpage (h : NdAt H a s) {i p : Nat} (hi : i < a.B) (hp : p < a.P) (v : Bytes) : ∃ H', wr H (a.pb i) p [.str v] = some H' ∧ NdAt H' a { s with pages := upd2 s.pages i p v } ∧ Keep a.fp H H' := by
  have hk : Keep (fun k => k = a.pb i) H (H.set (a.pb i) (.cells ((arrC a.P (NdA.pg s i)).set p (.str v)) .exact)) := Keep.set _ _ _ rfl
  refine ⟨_, wr1_of (h.pgs i hi) (by decide) (by rw [arrC_length (pg_len s i)]; omega), ?_, hk.mono fun k e => .inr (.inr ⟨i, hi, e⟩)⟩
  refine { cell := hk.get h.cell (h.cp i hi), blks := hk.get h.blks (h.bp i hi), pgs := fun j hj => ?_, cuts := ?_, fails := ?_, cb := h.cb, cp := h.cp, bp := h.bp, pp := h.pp, csn := h.csn, fsn := h.fsn, sz := h.sz, ln := h.ln }
  · by_cases e : j = i
    · subst e
      rw [set_get (get_lt (h.pgs j hj))]
      have := arrC_set (pg_len s j) (j := 0) (by decide) (.str v) hp
      simp only [Nat.mul_one, Nat.add_zero] at this
      rw [this]
      congr 2
      refine arrC_congr fun k _ => ?_
      by_cases e2 : k = p
      · subst e2; simp [NdA.pg, upd2]
      · simp [NdA.pg, upd2, e2]
    · rw [hk.get (h.pgs j hj) (fun e2 => e (h.pp j i hj hi e2))]
      congr 2
      refine arrC_congr fun k _ => ?_
      simp [NdA.pg, upd2, e]
  · exact h.cuts.keep hk fun b o hp e => h.csn b o hp (.inr (.inr ⟨i, hi, e⟩))
  · exact h.fails.keep hk fun b o hp e => h.fsn b o hp (.inr (.inr ⟨i, hi, e⟩))
end
end Ev
namespace Ev
open Go (IntKind)

def Nd.inE (a : NdA) (s : Nd) (b p : Int) : Int := if s.off = true then 51 else if b < 0 ∨ (a.B : Int) ≤ b ∨ p < 0 ∨ (a.P : Int) ≤ p then 50 else 0
def fullP (a : NdA) : Bytes := List.replicate (a.S + 32) 255
def tornB (x : Cut) (t : Bytes) : Bytes :=
  t.take (min x.2.1.toNat t.length) ++ List.replicate (t.length - min x.2.1.toNat t.length) (UInt8.ofNat x.2.2.1.toNat)
theorem tornB_length (x : Cut) (t : Bytes) : (tornB x t).length = t.length := by unfold tornB; simp; omega
def Nd.lay (a : NdA) (s : Nd) (b p : Nat) (t : Bytes) : Nd := { s with pages := upd2 s.pages b p (if t = fullP a then [] else t) }
/-- The cut of the next action. -/
def Nd.cutNow (s : Nd) : Option Cut := s.cuts.find? fun x => x.1 == s.did + 1
def Nd.acted (s : Nd) : Nd := { s with did := s.did + 1, off := s.off || s.cutNow.isSome }
def Nd.failNow (s : Nd) : Bool := decide (s.did + 1 ∈ s.fails)
def Nd.used (a : NdA) (s : Nd) (b p : Nat) : Bool := (List.range a.P).any fun q => decide (p ≤ q) && decide (s.pages b q ≠ [])
def Nd.program (a : NdA) (s : Nd) (b p : Nat) (t : Bytes) : Int × Nd :=
  match s.cutNow with
  | some x => (51, s.acted.lay a b p (tornB x t))
  | none => if s.dead b = true ∨ s.failNow = true then (53, { s.acted with dead := upd s.dead b true }.lay a b p (List.replicate t.length 0)) else (0, s.acted.lay a b p t)
def Nd.clear (s : Nd) (b n : Nat) : Nd := { s with pages := fun k q => if k = b ∧ q < n then [] else s.pages k q }
def Nd.erase (a : NdA) (s : Nd) (b : Nat) : Int × Nd :=
  let s1 := { s.acted with worn := upd s.worn b (s.worn b + 1) }
  match s.cutNow with
  | some x =>
    let s2 := s1.clear b (min x.2.1.toNat a.P)
    (51, if 0 ≤ x.2.1 ∧ x.2.1 < (a.P : Int) then s2.lay a b x.2.1.toNat (List.replicate (a.S + 32) (UInt8.ofNat x.2.2.1.toNat)) else s2)
  | none => if s.dead b = true ∨ s.failNow = true then (54, { s1 with dead := upd s.dead b true }) else (0, s1.clear b a.P)
def Nd.domark (s : Nd) (b : Nat) : Int × Nd :=
  match s.cutNow with
  | some x => (51, if 0 < x.2.1 then { s.acted with mark := upd s.mark b true } else s.acted)
  | none => (0, { s.acted with mark := upd s.mark b true })
def Nd.read (a : NdA) (s : Nd) (b p : Nat) : Bytes := if s.pages b p = [] then fullP a else s.pages b p

theorem sum0 {α β γ : Type} (f : α → γ) (g : β → γ) (x : α) : Sum.elim f g (.inl x) = f x := rfl
theorem sum1 {α β γ : Type} (f : α → γ) (g : β → γ) (x : β) : Sum.elim f g (.inr x) = g x := rfl

section
variable {H : Heap} {a : NdA} {s : Nd}

theorem in_nil (b p : Int) (H : Heap) : nand_Chip_in none b p H = some ((1, ()), H) := rfl
theorem nand_in (h : NdAt H a s) (b p : Int) : nand_Chip_in (some (a.c, 0)) b p H = some ((s.inE a b p, ()), H) := by
  unfold nand_Chip_in Nd.inE
  simp only [Option.isNone_some, cond_f, bind_some, Nat.zero_add, h.roff, h.rB, h.rP]
  cases s.off with
  | true => rfl
  | false =>
    by_cases h1 : b < 0
    · simp [h1]
    · by_cases h2 : (a.B : Int) ≤ b
      · simp [h1, h2]
      · by_cases h3 : p < 0
        · simp [h1, h2, h3]
        · by_cases h4 : (a.P : Int) ≤ p
          · simp [h1, h2, h3, h4]
          · simp [h1, h2, h3, h4]

theorem full_of {x0 : Ptr} {a3 : Nat × Nat} {v4 : Int} {s2 : Bytes} (hx : x0 = some a3) (e1 : strOf (H ++ [.cells [.int .u8 255] .exact]) ⟨some (H.length, 0), 1, 1⟩ = some s2) (e4 : rdI .i64 (H ++ [.cells [.int .u8 255] .exact]) a3.1 (a3.2 + 2) = some v4) {f : Bytes} (e3 : strings_Repeat s2 (IntKind.wrap .i64 (v4 + 32)) = some (f, ())) :
    nand_Chip_full x0 H = some ((f, ()), H ++ [.cells [.int .u8 255] .exact]) := by
  unfold nand_Chip_full
  dsimp only
  rw [e1, bind_some, hx, bind_some, e4, bind_some, e3, bind_some]
theorem full_rep {n : Nat} (hs : n ≤ 4294967296) : strings_Repeat [255] (IntKind.wrap .i64 ((n : Int) + 32)) = some (List.replicate (n + 32) 255, ()) := by
  have e2 : IntKind.wrap .i64 ((n : Int) + 32) = ((n + 32 : Nat) : Int) := by rw [wrap_i64 (by omega) (by omega)]; omega
  rw [e2, rep_of (by rw [List.length_singleton]; omega) (by omega), flat1]
theorem nand_full (h : NdAt H a s) : nand_Chip_full (some (a.c, 0)) H = some ((fullP a, ()), H ++ [.cells [.int .u8 255] .exact]) :=
  full_of rfl (strOf_of app_last (by decide) rfl) (by rw [Nat.zero_add]; exact (h.push _).rS) (full_rep h.sz.2.2)

theorem torn_eq (x : Cut) (t : Bytes) (hx : 0 ≤ x.2.2.1 ∧ x.2.2.1 < 256) (ht : t.length ≤ 35184372088832) : nand_torn x t = some (tornB x t, ()) := by
  obtain ⟨at', keep, fill, u⟩ := x
  simp only at hx
  unfold nand_torn nand_torn.on
  have r1 : rdI .i64 [Blk.cells [.int .i64 at', .int .i64 keep, .int .u8 fill] .exact] 0 1 = some keep := rfl
  have r2 : rdI .u8 [Blk.cells [.int .i64 at', .int .i64 keep, .int .u8 fill] .exact] 0 2 = some fill := rfl
  have hm : (if (t.length : Int) < (if 0 > keep then 0 else keep) then (t.length : Int) else (if 0 > keep then 0 else keep)) = ((min keep.toNat t.length : Nat) : Int) := by
    by_cases h0 : 0 > keep
    · rw [if_pos h0, if_neg (by omega)]; omega
    · rw [if_neg h0]
      by_cases h1 : (t.length : Int) < keep
      · rw [if_pos h1]; omega
      · rw [if_neg h1]; omega
  have hs : ∀ B : Blk, strOf [B, Blk.cells [.int .u8 fill] .exact] ⟨some (1, 0), 1, 1⟩ = some [UInt8.ofNat fill.toNat] := fun _ => rfl
  have hsub : subS t 0 ((min keep.toNat t.length : Nat) : Int) = some (t.take (min keep.toNat t.length)) := by
    rw [show (0 : Int) = ((0 : Nat) : Int) from rfl, sub_of (Nat.zero_le _) (by omega)]; rfl
  have hw : IntKind.wrap .i64 ((t.length : Int) - ((min keep.toNat t.length : Nat) : Int)) = ((t.length - min keep.toNat t.length : Nat) : Int) := by
    rw [wrap_i64 (by omega) (by omega)]; omega
  simp only [List.nil_append, List.length_nil, r1, bind_some, hm, hsub, r2, List.cons_append, List.length_cons, Nat.zero_add, hs, hw]
  rw [rep_of (by simp; omega) (by omega), flat1, bind_some, cat_of (by simp; omega), bind_some]; rfl

theorem nand_lay (h : NdAt H a s) {b p : Nat} (hb : b < a.B) (hp : p < a.P) (t : Bytes) : ∃ H', nand_Chip_lay (some (a.c, 0)) (b : Int) (p : Int) t H = some ((), H') ∧ NdAt H' a (s.lay a b p t) ∧ Keep a.fp H H' := by
  unfold nand_Chip_lay
  have h1 := h.push (.cells [.int .u8 255] .exact)
  obtain ⟨H', w1, w2, w3⟩ := h1.wpage hb hp (if t = fullP a then [] else t)
  refine ⟨H', ?_, w2, (Keep.push _ _ _).trans w3⟩
  simp only [nand_full h, bind_some]
  by_cases ht : t = fullP a
  · rw [if_pos ht] at w1
    simp only [ht, decide_true, cond_t, bind_some, Nat.zero_add, h1.rbb, NdAt.atb b hb, h1.rpb hb, NdAt.atp b p hp, w1]
  · rw [if_neg ht] at w1
    simp only [decide_eq_false ht, cond_f, bind_some, Nat.zero_add, h1.rbb, NdAt.atb b hb, h1.rpb hb, NdAt.atp b p hp, w1]

theorem nand_fail (h : NdAt H a s) : nand_Chip_fail (some (a.c, 0)) H = some ((decide (s.did ∈ s.fails), ()), H) := by
  unfold nand_Chip_fail
  have := h.ln
  simp only [bind_some, Nat.zero_add, h.rfs, h.rdid, contains_eq h.fails (by omega)]

theorem cutC_length (l : List Cut) : (cutC l).length = l.length * 3 := rowsC_length (cts := [.int .i64, .int .i64, .int .u8]) l
theorem NdAt.cs_len (h : NdAt H a s) : a.cs.len = s.cuts.length := by
  have hl := h.cuts.len
  rw [cutC_length] at hl
  omega
/-- One cut of the list. -/
theorem NdAt.cut_at (h : NdAt H a s) {i : Nat} (hi : i < s.cuts.length) : ∃ b o, Sl.at 3 a.cs (i : Int) = some (b, o) ∧ @Eq (Option Cut) (rd H (.agg [.int .i64, .int .i64, .int .u8]) b o) (some s.cuts[i]) := by
  have hl2 := h.cs_len
  obtain ⟨b, o, hp, h1, cs, bk, h2, h3, h4⟩ := slRow_cell h.cuts.row (i := i) (by omega) h.cuts.nil
  refine ⟨b, o + i * 3, h1, ?_⟩
  have hlt := lt_mul (i := i) (j := 2) (n := a.cs.len) (es := 3) (by omega) (by decide)
  refine rd_agg_of h2 (by simp; omega) ?_
  have he : (cs.drop (o + i * 3)).take 3 = Tup.mk [.int .i64, .int .i64, .int .u8] s.cuts[i] := by
    apply List.ext_getElem?
    intro j
    rw [List.getElem?_take]
    by_cases hj : j < 3
    · rw [if_pos hj, List.getElem?_drop, h4 j hj]
      exact rowsC_get (cts := [.int .i64, .int .i64, .int .u8]) (rows := s.cuts) (i := i) (List.getElem?_eq_getElem hi) hj
    · rw [if_neg hj, List.getElem?_eq_none (by simp [Tup.mk]; omega)]
  rw [show ([CT.int IntKind.i64, CT.int IntKind.i64, CT.int IntKind.u8] : List CT).length = 3 from rfl, he]
  simp [Tup.mk, Tup.un, CT.mk, CT.un]
  rfl
theorem wr_cut {H : Heap} (x : Cut) : wr (H ++ [.cells [.int .i64 0, .int .i64 0, .int .u8 0] .exact]) H.length 0 [.int .i64 x.1, .int .i64 x.2.1, .int .u8 x.2.2.1] = some (H ++ [cutB x]) := by
  rw [wr_last (by decide) (by simp)]; rfl
theorem rd_cut {H : Heap} {k : Nat} {x : Cut} (h : H[k]? = some (cutB x)) : @Eq (Option Cut) (rd H (.agg [.int .i64, .int .i64, .int .u8]) k 0) (some x) := by
  refine rd_agg_of h (by simp) ?_
  simp [Tup.un, CT.un]
  rfl
theorem wr_cut_at {H : Heap} {k : Nat} {y : Cut} (h : H[k]? = some (cutB y)) (x : Cut) : wr H k 0 [.int .i64 x.1, .int .i64 x.2.1, .int .u8 x.2.2.1] = some (H.set k (cutB x)) := by
  rw [wr_of h (by decide) (by simp)]; rfl

theorem nand_act (h : NdAt H a s) (hd : 0 ≤ s.did ∧ s.did < 4611686018427387904) : ∃ H', nand_Chip_act (some (a.c, 0)) H = some (((s.cutNow.getD cut0), s.cutNow.isSome, ()), H') ∧ NdAt H' a s.acted ∧ Keep a.fp H H' := by
  unfold nand_Chip_act
  have hp := h.push (cutB cut0)
  obtain ⟨H5, w1, w2, w3⟩ := hp.wdid (s.did + 1)
  have ew : IntKind.wrap .i64 (s.did + 1) = s.did + 1 := wrap_i64 (by omega) (by omega)
  have hcl := h.cs_len
  have hln := h.ln
  have hce := hp.rdid
  have hlk : H5[H.length]? = some (cutB cut0) := w3.get app_last (by
    intro hf
    have := h.own_lt (k := H.length) (.inl hf)
    omega)
  have eB : H ++ [Blk.cells [.int .i64 0, .int .i64 0, .int .u8 0] .exact] = H ++ [cutB cut0] := rfl
  obtain ⟨y, G, l1, l2⟩ := loopW_run (step := nand_Chip_act.s1 (some (a.c, 0)) H a.cs) (fun t G => ∃ i : Nat, i ≤ s.cuts.length ∧ t.1 = (i : Int) ∧ NdAt G a { s with did := s.did + 1 } ∧ Keep (fun _ => False) H5 G ∧ ((s.cuts.drop i).find? fun x => x.1 == s.did + 1) = s.cutNow)
    (fun y G => match y with
      | .inl _ => NdAt G a { s with did := s.did + 1 } ∧ Keep (fun _ => False) H5 G ∧ s.cutNow = none
      | .inr z => z.1 = true ∧ ∃ x, s.cutNow = some x ∧ NdAt G a { s with did := s.did + 1, off := true } ∧ Keep (fun k => a.fp k ∨ k = H.length) H5 G ∧ G[H.length]? = some (cutB x))
    (fun t _ => s.cuts.length - t.1.toNat)
    (by
      rintro ⟨j, u⟩ G ⟨i, hi, hj, hG, hK, hF⟩
      have hj : j = (i : Int) := hj
      subst hj
      unfold nand_Chip_act.s1
      by_cases hlt : i < s.cuts.length
      · have hd1 : decide ((i : Int) < (a.cs.len : Int)) = true := decide_eq_true (by omega)
        obtain ⟨b, o, g1, g2⟩ := hG.cut_at (i := i) hlt
        have g2' : @Eq (Option Cut) (rd G (.agg [.int .i64, .int .i64, .int .u8]) b o) (some s.cuts[i]) := g2
        simp only [hd1, cond_t, g1, bind_some, g2']
        rw [wr_cut, bind_some]
        have hG2 := hG.push (cutB s.cuts[i])
        have r1 : rdI .i64 (G ++ [cutB s.cuts[i]]) G.length 0 = some s.cuts[i].1 := rdI_of app_last rfl
        have r2 : rdI .i64 (G ++ [cutB s.cuts[i]]) a.c 6 = some (s.did + 1) := hG2.rdid
        simp only [r1, bind_some, Nat.zero_add, r2]
        rw [List.drop_eq_getElem_cons hlt, List.find?_cons] at hF
        by_cases he : s.cuts[i].1 = s.did + 1
        · have hF1 : s.cutNow = some s.cuts[i] := by rw [← hF]; simp [he]
          obtain ⟨G3, v1, v2, v3⟩ := hG2.woff true
          have hx : G3[G.length]? = some (cutB s.cuts[i]) := v3.get app_last (by
            intro hf
            have := hG.own_lt (k := G.length) (.inl hf)
            omega)
          have hkG : (G ++ [cutB s.cuts[i]])[H.length]? = some (cutB cut0) := by
            rw [app_lt (Nat.lt_of_lt_of_le (get_lt hlk) hK.len)]
            exact hK.get hlk id
          have hz : G3[H.length]? = some (cutB cut0) := v3.get hkG (by
            intro hf
            have := h.own_lt (k := H.length) (.inl hf)
            omega)
          have hkset : Keep (fun k => k = H.length) G3 (G3.set H.length (cutB s.cuts[i])) := Keep.set _ _ _ rfl
          simp only [decide_eq_true he, cond_t, v1, bind_some, rd_cut hx]
          rw [wr_cut_at hz, bind_some]
          refine ⟨rfl, s.cuts[i], hF1, v2.keep hkset ?_, ?_, set_get (get_lt hz)⟩
          · intro k hk e
            subst e
            have := h.own_lt hk
            omega
          · exact (((hK.mono (fun _ => False.elim)).trans (Keep.push _ _ _)).trans (v3.mono fun k hk => .inl hk)).trans (hkset.mono fun k hk => .inr hk)
        · have hF1 : ((s.cuts.drop (i + 1)).find? fun x => x.1 == s.did + 1) = s.cutNow := by
            have : (s.cuts[i].1 == s.did + 1) = false := by simpa using he
            rw [this] at hF; exact hF
          simp only [decide_eq_false he, cond_f, Round, wrap_succ (show i < 9223372036854775807 by omega)]
          exact ⟨⟨i + 1, hlt, rfl, hG2, hK.trans (Keep.push _ _ _), hF1⟩, by simp; omega⟩
      · have hd1 : decide ((i : Int) < (a.cs.len : Int)) = false := decide_eq_false (by omega)
        simp only [hd1, cond_f, Round]
        rw [List.drop_eq_nil_of_le (by omega)] at hF
        exact ⟨hG, hK, hF.symm⟩) (0, ()) H5 ⟨0, Nat.zero_le _, rfl, w2, Keep.refl _ _, rfl⟩
  have hk5 : Keep a.fp H H5 := (Keep.push _ _ _).trans w3
  simp only [eB, bind_some, Nat.zero_add, hp.rdid, ew, w1, w2.rcs, l1]
  cases y with
  | inl _ =>
    obtain ⟨m1, m2, m3⟩ : NdAt G a { s with did := s.did + 1 } ∧ Keep (fun _ => False) H5 G ∧ s.cutNow = none := l2
    have hz : G[H.length]? = some (cutB cut0) := m2.get hlk id
    have hkset : Keep (fun k => k = H.length) G (G.set H.length (cutB cut0)) := Keep.set _ _ _ rfl
    have hw := wr_cut_at hz cut0
    have hw' : wr G H.length 0 [.int .i64 0, .int .i64 0, .int .u8 0] = some (G.set H.length (cutB cut0)) := hw
    simp only [sum0, hw', bind_some, rd_cut (set_get (get_lt hz)), m3, Option.isSome_none, Option.getD_none]
    refine ⟨_, rfl, ?_, ?_⟩
    · have e : s.acted = { s with did := s.did + 1 } := by unfold Nd.acted; rw [m3]; simp
      rw [e]
      refine m1.keep hkset ?_
      intro k hk e
      subst e
      have := h.own_lt hk
      omega
    · exact (((hk5.mono (G := fun k => a.fp k ∨ k = H.length) fun k => .inl).trans (m2.mono fun _ => False.elim)).trans (hkset.mono fun k hk => .inr hk)).new fun k hk hlt => hk.resolve_right (by omega)
  | inr z =>
    obtain ⟨e1, x, e2, m1, m2, m3⟩ : z.1 = true ∧ ∃ x, s.cutNow = some x ∧ NdAt G a { s with did := s.did + 1, off := true } ∧ Keep (fun k => a.fp k ∨ k = H.length) H5 G ∧ G[H.length]? = some (cutB x) := l2
    simp only [sum1, rd_cut m3, bind_some, e1, e2, Option.isSome_some, Option.getD_some]
    refine ⟨_, rfl, ?_, ?_⟩
    · have e : s.acted = { s with did := s.did + 1, off := true } := by unfold Nd.acted; rw [e2]; simp
      rw [e]; exact m1
    · exact ((hk5.mono (G := fun k => a.fp k ∨ k = H.length) fun k => .inl).trans m2).new fun k hk hlt => hk.resolve_right (by omega)
end
end Ev
namespace Ev
open Go (IntKind)

section
variable {H : Heap} {a : NdA} {s : Nd}

/-- Which inputs are in. -/
theorem in_ok {b p : Nat} (ho : s.off = false) (hb : b < a.B) (hp : p < a.P) : s.inE a b p = 0 := by
  unfold Nd.inE
  rw [ho, if_neg (by simp), if_neg (by omega)]
theorem in_no {b p : Int} (h : s.inE a b p ≠ 0) : (!decide (s.inE a b p = 0)) = true := by rw [decide_eq_false h]; rfl

theorem prog_refused (h : NdAt H a s) {b p : Int} (he : s.inE a b p ≠ 0) (d sp : Bytes) : nand_Chip_Program (some (a.c, 0)) b p d sp H = some ((s.inE a b p, ()), H) := by
  unfold nand_Chip_Program
  simp only [nand_in h, bind_some, in_no he, cond_t]
theorem prog_len (h : NdAt H a s) {b p : Int} (he : s.inE a b p = 0) {d sp : Bytes} (hl : d.length ≠ a.S ∨ sp.length ≠ 32) : nand_Chip_Program (some (a.c, 0)) b p d sp H = some ((1, ()), H) := by
  unfold nand_Chip_Program
  simp only [nand_in h, bind_some, he, decide_true, Bool.not_true, cond_f, Nat.zero_add, h.rS]
  by_cases h1 : d.length = a.S
  · have h2 : sp.length ≠ 32 := hl.resolve_left (fun x => x h1)
    rw [decide_eq_true (by omega), decide_eq_false (by omega)]; rfl
  · rw [decide_eq_false (by omega)]; rfl

theorem prog_loop (h : NdAt H a s) {b p : Nat} (hb : b < a.B) (hp : p < a.P) :
    loopW (nand_Chip_Program.s1 (some (a.c, 0)) (a.bb, b * 4)) ((p : Int), ()) H = some (if s.used a b p = true then .inr (52, ()) else .inl (), H) := by
  have hsz := h.sz
  obtain ⟨y, G, l1, rfl, l2⟩ := loopW_run (step := nand_Chip_Program.s1 (some (a.c, 0)) (a.bb, b * 4)) (fun t G => G = H ∧ ∃ i : Nat, p ≤ i ∧ i ≤ a.P ∧ t.1 = (i : Int) ∧ ∀ q, p ≤ q → q < i → s.pages b q = [])
    (fun y G => G = H ∧ y = if s.used a b p = true then .inr (52, ()) else .inl ()) (fun t _ => a.P - t.1.toNat)
    (by
      rintro ⟨j, u⟩ G ⟨rfl, i, hpi, hi, hj, hno⟩
      have hj : j = (i : Int) := hj
      subst hj
      unfold nand_Chip_Program.s1
      simp only [bind_some, Nat.zero_add, h.rP]
      by_cases hlt : i < a.P
      · simp only [decide_eq_true (show (i : Int) < (a.P : Int) by omega), cond_t, h.rpb hb, bind_some, NdAt.atp b i hlt, h.rpage hb hlt]
        by_cases he : s.pages b i = []
        · simp only [decide_eq_true he, Bool.not_true, cond_f, Round, wrap_succ (show i < 9223372036854775807 by omega)]
          refine ⟨⟨trivial, i + 1, by omega, by omega, rfl, ?_⟩, by simp; omega⟩
          intro q h1 h2
          by_cases hq : q = i
          · rw [hq]; exact he
          · exact hno q h1 (by omega)
        · have hu : s.used a b p = true := by
            unfold Nd.used
            rw [List.any_eq_true]
            exact ⟨i, List.mem_range.2 hlt, by simp [hpi, he]⟩
          simp only [decide_eq_false he, Bool.not_false, cond_t, Round, hu, if_true]
          exact ⟨trivial, trivial⟩
      · have hu : s.used a b p = false := by
          unfold Nd.used
          rw [List.any_eq_false]
          intro q hq
          have hq := List.mem_range.1 hq
          by_cases h1 : p ≤ q
          · simp [hno q h1 (by omega)]
          · simp [h1]
        simp only [decide_eq_false (show ¬ (i : Int) < (a.P : Int) by omega), cond_f, Round, hu]
        exact ⟨trivial, by simp⟩) ((p : Int), ()) H ⟨rfl, p, Nat.le_refl _, by omega, rfl, fun q h1 h2 => by omega⟩
  rw [l1, l2]

theorem cut_get {G : Heap} {x : Cut} : G.length < (G ++ [cutB x]).length := by simp

theorem nand_program (h : NdAt H a s) (hd : 0 ≤ s.did ∧ s.did < 4611686018427387904) (hcu : ∀ x ∈ s.cuts, 0 ≤ x.2.2.1 ∧ x.2.2.1 < 256) {b p : Nat} (ho : s.off = false) (hb : b < a.B) (hp : p < a.P) {d sp : Bytes} (hdl : d.length = a.S) (hsl : sp.length = 32) (hu : s.used a b p = false) :
    ∃ H', nand_Chip_Program (some (a.c, 0)) (b : Int) (p : Int) d sp H = some (((s.program a b p (d ++ sp)).1, ()), H') ∧ NdAt H' a (s.program a b p (d ++ sp)).2 ∧ Keep a.fp H H' := by
  have hsz := h.sz
  obtain ⟨H1, q1, q2, q3⟩ := nand_act h hd
  have q4 := q2.push (cutB (s.cutNow.getD cut0))
  have k4 : Keep a.fp H (H1 ++ [cutB (s.cutNow.getD cut0)]) := q3.trans (Keep.push _ _ _)
  have hcat : catS d sp = some (d ++ sp) := cat_of (by omega)
  have htl : (d ++ sp).length ≤ 35184372088832 := by simp; omega
  have r1 := rd_cut (x := s.cutNow.getD cut0) (app_last (H := H1))
  have rde := q4.rdead hb
  unfold nand_Chip_Program Nd.program
  simp only [nand_in h, in_ok ho hb hp, bind_some, decide_true, Bool.not_true, cond_f, Nat.zero_add, h.rS, hdl, hsl, h.rbb, NdAt.atb b hb, prog_loop h hb hp, hu, Bool.false_eq_true, if_false, sum0, q1, wr_cut, r1, hcat]
  have e32 : decide (((32 : Nat) : Int) = 32) = true := rfl
  rw [e32]
  simp only [Bool.not_true, cond_f]
  cases hc : s.cutNow with
  | some x =>
    have hx : x ∈ s.cuts := List.mem_of_find?_eq_some hc
    rw [hc] at q4 k4
    simp only [Option.getD_some] at q4 k4
    obtain ⟨H2, w1, w2, w3⟩ := nand_lay q4 hb hp (tornB x (d ++ sp))
    have et : nand_torn (x.1, x.2.1, x.2.2.1, ()) (d ++ sp) = some (tornB x (d ++ sp), ()) := torn_eq x _ (hcu x hx) htl
    simp only [Option.isSome_some, cond_t, Option.getD_some, et, bind_some, w1]
    exact ⟨H2, rfl, w2, k4.trans w3⟩
  | none =>
    rw [hc] at q4 k4 rde
    simp only [Option.getD_none] at q4 k4 rde
    simp only [Option.isSome_none, cond_f, Option.getD_none, rde, bind_some]
    have hf := nand_fail q4
    have hfn : decide (s.acted.did ∈ s.acted.fails) = s.failNow := rfl
    rw [hfn] at hf
    have hda : s.acted.dead b = s.dead b := rfl
    have e1 : (cond (s.acted.dead b) (some ((true, ()), H1 ++ [cutB cut0])) (nand_Chip_fail (some (a.c, 0)) (H1 ++ [cutB cut0]) |>.bind fun (r24 : ((Bool × Unit) × Heap)) => some ((r24.1.1, ()), r24.2)) : Option ((Bool × Unit) × Heap)) = some ((s.dead b || s.failNow, ()), H1 ++ [cutB cut0]) := by
      rw [hf, hda]
      cases s.dead b <;> rfl
    rw [e1, bind_some]
    by_cases hdf : s.dead b = true ∨ s.failNow = true
    · have e2 : (s.dead b || s.failNow) = true := by simpa using hdf
      obtain ⟨H2, w1, w2, w3⟩ := q4.wdead hb true
      have et : nand_torn (0, 0, 0, ()) (d ++ sp) = some (List.replicate (d ++ sp).length 0, ()) := by
        rw [show nand_torn (0, 0, 0, ()) (d ++ sp) = some (tornB cut0 (d ++ sp), ()) from torn_eq cut0 (d ++ sp) (by decide) htl]; simp [tornB, cut0]
      obtain ⟨H3, v1, v2, v3⟩ := nand_lay w2 hb hp (List.replicate (d ++ sp).length 0)
      simp only [e2, cond_t, w1, bind_some, et, v1, if_pos hdf]
      exact ⟨H3, rfl, v2, (k4.trans w3).trans v3⟩
    · have e2 : (s.dead b || s.failNow) = false := by
        cases h1 : s.dead b <;> cases h2 : s.failNow <;> simp_all
      obtain ⟨H3, v1, v2, v3⟩ := nand_lay q4 hb hp (d ++ sp)
      simp only [e2, cond_f, bind_some, v1, if_neg hdf]
      exact ⟨H3, rfl, v2, k4.trans v3⟩
theorem prog_used (h : NdAt H a s) {b p : Nat} (ho : s.off = false) (hb : b < a.B) (hp : p < a.P) {d sp : Bytes} (hdl : d.length = a.S) (hsl : sp.length = 32) (hu : s.used a b p = true) :
    nand_Chip_Program (some (a.c, 0)) (b : Int) (p : Int) d sp H = some ((52, ()), H) := by
  unfold nand_Chip_Program
  simp only [nand_in h, in_ok ho hb hp, bind_some, decide_true, Bool.not_true, cond_f, Nat.zero_add, h.rS, hdl, hsl, h.rbb, NdAt.atb b hb, prog_loop h hb hp, hu, if_true, sum1]
  rfl

/-! Read. -/
theorem read_refused (h : NdAt H a s) {b p : Int} (he : s.inE a b p ≠ 0) : nand_Chip_Read (some (a.c, 0)) b p H = some (([], [], s.inE a b p, ()), H) := by
  unfold nand_Chip_Read
  simp only [nand_in h, bind_some, in_no he, cond_t]
theorem nand_read (h : NdAt H a s) {b p : Nat} (ho : s.off = false) (hb : b < a.B) (hp : p < a.P) (hl : s.pages b p = [] ∨ (s.pages b p).length = a.S + 32) :
    ∃ H', nand_Chip_Read (some (a.c, 0)) (b : Int) (p : Int) H = some (((s.read a b p).take a.S, (s.read a b p).drop a.S, 0, ()), H') ∧ NdAt H' a s ∧ Keep (fun _ => False) H H' := by
  unfold nand_Chip_Read
  have hrl : (s.read a b p).length = a.S + 32 := by
    unfold Nd.read
    split
    · simp [fullP]
    · rename_i hne; exact hl.resolve_left hne
  have e1 : ∃ H', (cond (decide (s.pages b p = [])) ((nand_Chip_full (some (a.c, 0)) H).bind fun (r8 : ((Bytes × Unit) × Heap)) => some ((r8.1.1, ()), r8.2)) (some ((s.pages b p, ()), H)) : Option ((Bytes × Unit) × Heap)) = some ((s.read a b p, ()), H') ∧ NdAt H' a s ∧ Keep (fun _ => False) H H' := by
    unfold Nd.read
    by_cases he : s.pages b p = []
    · rw [decide_eq_true he, cond_t, nand_full h, if_pos he]
      exact ⟨_, rfl, h.push _, Keep.push _ _ _⟩
    · rw [decide_eq_false he, cond_f, if_neg he]
      exact ⟨_, rfl, h, Keep.refl _ _⟩
  obtain ⟨H', g1, g2, g3⟩ := e1
  refine ⟨H', ?_, g2, g3⟩
  have s1 : subS (s.read a b p) 0 (a.S : Int) = some ((s.read a b p).take a.S) := by
    rw [show (0 : Int) = ((0 : Nat) : Int) from rfl, sub_of (Nat.zero_le _) (by omega)]; rfl
  have s2 : subS (s.read a b p) (a.S : Int) ((s.read a b p).length : Int) = some ((s.read a b p).drop a.S) := by
    rw [sub_of (by omega) (Nat.le_refl _), List.take_length]
  simp only [nand_in h, in_ok ho hb hp, bind_some, decide_true, Bool.not_true, cond_f, Nat.zero_add, h.rbb, NdAt.atb b hb, h.rpb hb, NdAt.atp b p hp, h.rpage hb hp, g1, g2.rS, s1, s2]

/-! Erase. -/
theorem erase_refused (h : NdAt H a s) {b : Int} (he : s.inE a b 0 ≠ 0) : nand_Chip_Erase (some (a.c, 0)) b H = some ((s.inE a b 0, ()), H) := by
  unfold nand_Chip_Erase
  simp only [nand_in h, bind_some, in_no he, cond_t]

theorem clear_zero (s : Nd) (b : Nat) : s.clear b 0 = s := by
  cases s; simp [Nd.clear]
theorem clear_succ (s : Nd) (b n : Nat) : { s.clear b n with pages := upd2 (s.clear b n).pages b n [] } = s.clear b (n + 1) := by
  have e : upd2 (fun k q => if k = b ∧ q < n then [] else s.pages k q) b n [] = fun k q => if k = b ∧ q < n + 1 then [] else s.pages k q := by
   funext k q
   simp only [upd2]
   by_cases h1 : k = b
   · by_cases h2 : q = n
     · rw [if_pos ⟨h1, h2⟩, if_pos ⟨h1, by omega⟩]
     · rw [if_neg (fun h => h2 h.2)]
       by_cases h3 : q < n
       · rw [if_pos ⟨h1, h3⟩, if_pos ⟨h1, by omega⟩]
       · rw [if_neg (fun h => h3 h.2), if_neg (fun h => by omega)]
   · rw [if_neg (fun h => h1 h.1), if_neg (fun h => h1 h.1), if_neg (fun h => h1 h.1)]
  unfold Nd.clear
  dsimp only
  rw [e]

theorem erase_loop (h : NdAt H a s) {b n : Nat} (hb : b < a.B) (hn : n ≤ a.P) {v10 v12 : Int} (he : (if v12 < (if 0 > v10 then 0 else v10) then v12 else (if 0 > v10 then 0 else v10)) = (n : Int)) :
    ∃ H', loopW (nand_Chip_Erase.s1 (a.bb, b * 4) v10 v12) (0, ()) H = some ((), H') ∧ NdAt H' a (s.clear b n) ∧ Keep a.fp H H' := by
  have hsz := h.sz
  obtain ⟨y, G, l1, l2⟩ := loopW_run (step := nand_Chip_Erase.s1 (a.bb, b * 4) v10 v12) (fun t G => ∃ i : Nat, i ≤ n ∧ t.1 = (i : Int) ∧ NdAt G a (s.clear b i) ∧ Keep a.fp H G) (fun _ G => NdAt G a (s.clear b n) ∧ Keep a.fp H G) (fun t _ => n - t.1.toNat)
    (by
      rintro ⟨j, u⟩ G ⟨i, hi, hj, hG, hK⟩
      have hj : j = (i : Int) := hj
      subst hj
      unfold nand_Chip_Erase.s1
      simp only [he]
      by_cases hlt : i < n
      · obtain ⟨G', w1, w2, w3⟩ := hG.wpage hb (show i < a.P by omega) []
        rw [clear_succ] at w2
        simp only [decide_eq_true (show (i : Int) < (n : Int) by omega), cond_t, hG.rpb hb, bind_some, NdAt.atp b i (show i < a.P by omega), w1, Round, wrap_succ (show i < 9223372036854775807 by omega)]
        exact ⟨⟨i + 1, hlt, rfl, w2, hK.trans w3⟩, by simp; omega⟩
      · have : i = n := by omega
        subst this
        simp only [decide_eq_false (show ¬ (i : Int) < (i : Int) by omega), cond_f, Round]
        exact ⟨hG, hK⟩) (0, ()) H ⟨0, Nat.zero_le _, rfl, by rw [clear_zero]; exact h, Keep.refl _ _⟩
  exact ⟨G, l1, l2⟩

theorem rep_str (n : Nat) : rep n [C.str []] = arrC n (fun _ => [C.str []]) := by
  unfold rep
  induction n with
  | zero => rfl
  | succ n ih =>
    rw [arrC, ← ih, List.replicate_succ']
    simp
theorem setL_all : ∀ (new old pre : List C), new.length = old.length → setL (pre ++ old) pre.length new = pre ++ new
  | [], [], pre, _ => by simp [setL]
  | x :: new, y :: old, pre, h => by
    rw [setL, List.set_append_right _ _ (Nat.le_refl _), Nat.sub_self, List.set_cons_zero]
    have := setL_all new old (pre ++ [x]) (by simpa using h)
    simp only [List.length_append, List.length_singleton, List.append_assoc, List.singleton_append] at this
    exact this
  | [], _ :: _, _, h => by simp at h
  | _ :: _, [], _, h => by simp at h
/-- All pages of a block at once. -/
theorem nand_clr (h : NdAt H a s) {b : Nat} (hb : b < a.B) : ∃ H', clrS H [.str []] ⟨some (a.pb b, 0), a.P, a.P⟩ = some H' ∧ NdAt H' a (s.clear b a.P) ∧ Keep a.fp H H' := by
  have hk : Keep (fun k => k = a.pb b) H (H.set (a.pb b) (.cells (arrC a.P fun _ => [C.str []]) .exact)) := Keep.set _ _ _ rfl
  have hn : NdAt (H.set (a.pb b) (.cells (arrC a.P fun _ => [C.str []]) .exact)) a (s.clear b a.P) := by
    refine { cell := hk.get h.cell (h.cp b hb), blks := hk.get h.blks (h.bp b hb), pgs := fun j hj => ?_, cuts := h.cuts.keep hk fun k o hp e => h.csn k o hp (.inr (.inr ⟨b, hb, e⟩)), fails := h.fails.keep hk fun k o hp e => h.fsn k o hp (.inr (.inr ⟨b, hb, e⟩)), cb := h.cb, cp := h.cp, bp := h.bp, pp := h.pp, csn := h.csn, fsn := h.fsn, sz := h.sz, ln := h.ln }
    by_cases e : j = b
    · subst e
      rw [set_get (get_lt (h.pgs j hj))]
      congr 2
      refine arrC_congr fun k hk => ?_
      simp [NdA.pg, Nd.clear, hk]
    · rw [hk.get (h.pgs j hj) (fun e2 => e (h.pp j b hj hb e2))]
      congr 2
      refine arrC_congr fun k _ => ?_
      simp [NdA.pg, Nd.clear, e]
  refine ⟨H.set (a.pb b) (.cells (arrC a.P fun _ => [C.str []]) .exact), ?_, hn, hk.mono fun k e => .inr (.inr ⟨b, hb, e⟩)⟩
  unfold clrS
  by_cases h0 : a.P = 0
  · simp only [h0, decide_true, cond_t]
    have hg := h.pgs b hb
    rw [h0] at hg
    have : H.set (a.pb b) (.cells (arrC 0 fun _ => [C.str []]) .exact) = H := by
      apply List.ext_getElem?
      intro j
      by_cases e : a.pb b = j
      · subst e; rw [set_get (get_lt hg), hg]; rfl
      · rw [set_get' e]
    rw [this]
  · rw [decide_eq_false h0, cond_f]
    simp only [rep_str]
    rw [wr_of (h.pgs b hb) (by decide) (by rw [arrC_length (fun _ => rfl) (es := 1), arrC_length (pg_len s b)]; omega)]
    have := setL_all (arrC a.P fun _ => [C.str []]) (arrC a.P (NdA.pg s b)) [] (by rw [arrC_length (fun _ => rfl) (es := 1), arrC_length (pg_len s b)])
    simp only [List.nil_append, List.length_nil] at this
    rw [this]

theorem nand_erase (h : NdAt H a s) (hd : 0 ≤ s.did ∧ s.did < 4611686018427387904) (hcu : ∀ x ∈ s.cuts, 0 ≤ x.2.2.1 ∧ x.2.2.1 < 256) {b : Nat} (ho : s.off = false) (hb : b < a.B) (hP : 0 < a.P) (hw : 0 ≤ s.worn b ∧ s.worn b < 4611686018427387904) :
    ∃ H', nand_Chip_Erase (some (a.c, 0)) (b : Int) H = some (((s.erase a b).1, ()), H') ∧ NdAt H' a (s.erase a b).2 ∧ Keep a.fp H H' := by
  have hsz := h.sz
  obtain ⟨H1, q1, q2, q3⟩ := nand_act h hd
  have q4 := q2.push (cutB (s.cutNow.getD cut0))
  have k4 : Keep a.fp H (H1 ++ [cutB (s.cutNow.getD cut0)]) := q3.trans (Keep.push _ _ _)
  have hi : s.inE a b 0 = 0 := in_ok (p := 0) ho hb hP
  have hwa : s.acted.worn b = s.worn b := rfl
  obtain ⟨H2, w1, w2, w3⟩ := q4.wworn hb (s.worn b + 1)
  have rw4 := q4.rworn hb
  rw [hwa] at rw4
  have ew : IntKind.wrap .i64 (s.worn b + 1) = s.worn b + 1 := wrap_i64 (by omega) (by omega)
  have hlk : H2[H1.length]? = some (cutB (s.cutNow.getD cut0)) := w3.get app_last (by
    intro hf
    have := q2.own_lt (k := H1.length) (.inl hf)
    omega)
  unfold nand_Chip_Erase Nd.erase
  simp only [nand_in h, hi, bind_some, decide_true, Bool.not_true, cond_f, Nat.zero_add, h.rbb, NdAt.atb b hb, q1, wr_cut, rw4, ew, w1]
  have es1 : ({ s.acted with worn := upd s.acted.worn b (s.worn b + 1) } : Nd) = { s.acted with worn := upd s.worn b (s.worn b + 1) } := rfl
  rw [es1] at w2
  generalize hs1 : ({ s.acted with worn := upd s.worn b (s.worn b + 1) } : Nd) = s1 at w2
  have hda : s1.dead b = s.dead b := by rw [← hs1]; rfl
  have hfn : decide (s1.did ∈ s1.fails) = s.failNow := by rw [← hs1]; rfl
  cases hc : s.cutNow with
  | some x =>
    have hx : x ∈ s.cuts := List.mem_of_find?_eq_some hc
    obtain ⟨at', keep, fill, u⟩ := x
    have hfi := hcu _ hx
    simp only at hfi
    rw [hc] at hlk
    simp only [Option.getD_some] at hlk
    have rk : rdI .i64 H2 H1.length 1 = some keep := rdI_of hlk rfl
    have rP := w2.rP
    have hm : (if (a.P : Int) < (if 0 > keep then 0 else keep) then (a.P : Int) else (if 0 > keep then 0 else keep)) = ((min keep.toNat a.P : Nat) : Int) := by
      by_cases h0 : 0 > keep
      · rw [if_pos h0, if_neg (by omega)]; omega
      · rw [if_neg h0]
        by_cases h1 : (a.P : Int) < keep
        · rw [if_pos h1]; omega
        · rw [if_neg h1]; omega
    obtain ⟨H3, l1, l2, l3⟩ := erase_loop w2 hb (n := min keep.toNat a.P) (by omega) hm
    have hlk3 : H3[H1.length]? = some (cutB (at', keep, fill, u)) := l3.get hlk (by
      intro hf
      have := q2.own_lt (k := H1.length) (.inl hf)
      omega)
    have rk3 : rdI .i64 H3 H1.length 1 = some keep := rdI_of hlk3 rfl
    have rf3 : rdI .u8 H3 H1.length 2 = some fill := rdI_of hlk3 rfl
    simp only [Option.isSome_some, cond_t, rk, bind_some, rP, l1, rk3, l2.rP]
    by_cases hk0 : 0 ≤ keep
    · by_cases hk1 : keep < (a.P : Int)
      · have hfu := nand_full l2
        have l4 := l2.push (.cells [.int .u8 255] .exact)
        have rf4 : rdI .u8 (H3 ++ [.cells [.int .u8 255] .exact]) H1.length 2 = some fill := rdI_of (by rw [app_lt (get_lt hlk3)]; exact hlk3) rfl
        have et : nand_torn (0, 0, fill, ()) (fullP a) = some (List.replicate (a.S + 32) (UInt8.ofNat fill.toNat), ()) := by
          rw [torn_eq (0, 0, fill, ()) (fullP a) hfi (by simp [fullP]; omega)]; simp [tornB, fullP]
        obtain ⟨H4, v1, v2, v3⟩ := nand_lay l4 hb (p := keep.toNat) (by omega) (List.replicate (a.S + 32) (UInt8.ofNat fill.toNat))
        have ek : ((keep.toNat : Nat) : Int) = keep := Int.toNat_of_nonneg hk0
        rw [ek] at v1
        simp only [decide_eq_true hk0, cond_t, decide_eq_true hk1, bind_some, rf3, hfu, et, rf4, if_true, v1]
        refine ⟨H4, rfl, ?_, ((((k4.trans (by rw [hc]; simp only [Option.getD_some]; exact Keep.refl _ _)).trans (by rw [hc] at w3; simpa using w3)).trans l3).trans (Keep.push _ _ _)).trans v3⟩
        rw [if_pos ⟨hk0, hk1⟩]; exact v2
      · simp only [decide_eq_true hk0, cond_t, decide_eq_false hk1, bind_some, cond_f]
        refine ⟨H3, rfl, ?_, (k4.trans w3).trans l3⟩
        rw [if_neg (fun h => hk1 h.2)]; exact l2
    · simp only [decide_eq_false hk0, bind_some, cond_f]
      refine ⟨H3, rfl, ?_, (k4.trans w3).trans l3⟩
      rw [if_neg (fun h => hk0 h.1)]; exact l2
  | none =>
    have hf := nand_fail w2
    rw [hfn] at hf
    have rde := w2.rdead hb
    rw [hda] at rde
    simp only [Option.isSome_none, cond_f, rde, bind_some]
    have e1 : (cond (s.dead b) (some ((true, ()), H2)) (nand_Chip_fail (some (a.c, 0)) H2 |>.bind fun (r24 : ((Bool × Unit) × Heap)) => some ((r24.1.1, ()), r24.2)) : Option ((Bool × Unit) × Heap)) = some ((s.dead b || s.failNow, ()), H2) := by
      rw [hf]
      cases s.dead b <;> rfl
    rw [e1, bind_some]
    by_cases hdf : s.dead b = true ∨ s.failNow = true
    · have e2 : (s.dead b || s.failNow) = true := by simpa using hdf
      obtain ⟨H3, v1, v2, v3⟩ := w2.wdead hb true
      simp only [e2, cond_t, v1, bind_some, if_pos hdf]
      refine ⟨H3, rfl, ?_, (k4.trans w3).trans v3⟩
      have : upd s1.dead b true = upd s.dead b true := by rw [← hs1]; rfl
      rw [this, ← hs1] at v2
      exact v2
    · have e2 : (s.dead b || s.failNow) = false := by
        cases h1 : s.dead b <;> cases h2 : s.failNow <;> simp_all
      obtain ⟨H3, v1, v2, v3⟩ := nand_clr w2 hb
      simp only [e2, cond_f, w2.rpb hb, bind_some, v1, if_neg hdf]
      refine ⟨H3, rfl, ?_, (k4.trans w3).trans v3⟩
      exact v2

/-! Mark. -/
end
end Ev
namespace Ev
open Go (IntKind)

abbrev Geo := Int × Int × Int × Unit
def geoOK (g : Geo) : Bool := decide (8 ≤ g.1 ∧ g.1 ≤ 32 ∧ 4 ≤ g.2.1 ∧ g.2.1 ≤ 16 ∧ 64 ≤ g.2.2.1 ∧ g.2.2.1 ≤ 256)
theorem nand_Check_eq (g : Geo) : nand_Check g = some (geoOK g, ()) := by
  obtain ⟨x, y, z, u⟩ := g
  have r0 : ∀ a b c, rdI .i64 [Blk.cells [.int .i64 a, .int .i64 b, .int .i64 c] .exact] 0 0 = some a := fun _ _ _ => rfl
  have r1 : ∀ a b c, rdI .i64 [Blk.cells [.int .i64 a, .int .i64 b, .int .i64 c] .exact] 0 1 = some b := fun _ _ _ => rfl
  have r2 : ∀ a b c, rdI .i64 [Blk.cells [.int .i64 a, .int .i64 b, .int .i64 c] .exact] 0 2 = some c := fun _ _ _ => rfl
  unfold nand_Check nand_Check.on geoOK
  simp only [List.nil_append, List.length_nil, r0, r1, r2, bind_some]
  by_cases h1 : 8 ≤ x
  · by_cases h2 : x ≤ 32
    · by_cases h3 : 4 ≤ y
      · by_cases h4 : y ≤ 16
        · by_cases h5 : 64 ≤ z
          · by_cases h6 : z ≤ 256 <;> simp [h1, h2, h3, h4, h5, h6]
          · simp [h1, h2, h3, h4, h5]
        · simp [h1, h2, h3, h4]
      · simp [h1, h2, h3]
    · simp [h1, h2]
  · simp [h1]

section
variable {H : Heap} {a : NdA} {s : Nd}

theorem rd_geo {H : Heap} {k : Nat} {g : Geo} {bk : BK} (h : H[k]? = some (.cells [.int .i64 g.1, .int .i64 g.2.1, .int .i64 g.2.2.1] bk)) : @Eq (Option Geo) (rd H (.agg [.int .i64, .int .i64, .int .i64]) k 0) (some g) := by
  refine rd_agg_of h (by simp) ?_
  simp [Tup.un, CT.un]
  rfl
end

/-! No chip. -/
end Ev
namespace Ev
open Go (IntKind)

section
variable {H : Heap} {a : NdA} {s : Nd}
/-- The cells of a slice that tells something of each block. -/
theorem nand_dead (h : NdAt H a s) : ∃ t H', nand_Chip_Dead (some (a.c, 0)) H = some ((t, ()), H') ∧ Row H' 1 t (arrC a.B fun i => [.bool (s.dead i)]) ∧ NdAt H' a s ∧ Keep (fun _ => False) H H' := by
  have hsz := h.sz
  unfold nand_Chip_Dead
  obtain ⟨x, G, l1, l2⟩ := loopW_run (step := nand_Chip_Dead.s1 ⟨some (a.bb, 0), a.B, a.B⟩) (fun t G => ∃ i : Nat, i ≤ a.B ∧ t.2.1 = (i : Int) ∧ t.1.len = i ∧ Grown G 1 t.1 (arrC i fun i => [.bool (s.dead i)]) ∧ NdAt G a s ∧ Keep (fun _ => False) H G ∧ ∀ x, t.1.p = some x → H.length ≤ x.1)
    (fun x G => Grown G 1 x.1 (arrC a.B fun i => [.bool (s.dead i)]) ∧ NdAt G a s ∧ Keep (fun _ => False) H G) (fun t _ => a.B - t.2.1.toNat)
    (by
      rintro ⟨t, j, u⟩ G ⟨i, hi, hj, hl, hg, hG, hK, hb⟩
      have hj : j = (i : Int) := hj
      subst hj
      have hg : Grown G 1 t (arrC i fun i => [.bool (s.dead i)]) := hg
      have hl : t.len = i := hl
      have hb : ∀ x, t.p = some x → H.length ≤ x.1 := hb
      unfold nand_Chip_Dead.s1
      by_cases hlt : i < a.B
      · simp only [decide_eq_true (show (i : Int) < (a.B : Int) by omega), cond_t, NdAt.atb i hlt, bind_some, hG.rblk hlt]
        have w1 : wr (G ++ [Blk.cells [.sl 1 Sl.nil, .int .i64 0, .bool false, .bool false] .exact]) G.length 0 [.sl 1 ⟨some (a.pb i, 0), a.P, a.P⟩, .int .i64 (s.worn i), .bool (s.dead i), .bool (s.mark i)] = some (G ++ [Blk.cells [.sl 1 ⟨some (a.pb i, 0), a.P, a.P⟩, .int .i64 (s.worn i), .bool (s.dead i), .bool (s.mark i)] .exact]) := by
          rw [wr_last (by decide) (by simp)]; rfl
        have r1 : rdB (G ++ [Blk.cells [.sl 1 ⟨some (a.pb i, 0), a.P, a.P⟩, .int .i64 (s.worn i), .bool (s.dead i), .bool (s.mark i)] .exact]) G.length 2 = some (s.dead i) := rdB_of app_last rfl
        simp only [w1, bind_some, r1]
        have g2 := (hg.push (Blk.cells [.sl 1 ⟨some (a.pb i, 0), a.P, a.P⟩, .int .i64 (s.worn i), .bool (s.dead i), .bool (s.mark i)] .exact)).push (Blk.cells [.bool (s.dead i)] .exact)
        have hG2 := (hG.push (Blk.cells [.sl 1 ⟨some (a.pb i, 0), a.P, a.P⟩, .int .i64 (s.worn i), .bool (s.dead i), .bool (s.mark i)] .exact)).push (Blk.cells [.bool (s.dead i)] .exact)
        have hK2 := (hK.trans (Keep.push _ _ (Blk.cells [.sl 1 ⟨some (a.pb i, 0), a.P, a.P⟩, .int .i64 (s.worn i), .bool (s.dead i), .bool (s.mark i)] .exact))).trans (Keep.push _ _ (Blk.cells [.bool (s.dead i)] .exact))
        rw [row_last (by rfl), bind_some]
        obtain ⟨a1, a2⟩ := g2.app (bytes := 1) (by decide) (n := 1) (new := [.bool (s.dead i)]) (by decide) rfl (by omega) (by omega)
        rw [a1, bind_some]
        simp only [wrap_succ (show i < 9223372036854775807 by omega), Round]
        generalize (G ++ [Blk.cells [.sl 1 ⟨some (a.pb i, 0), a.P, a.P⟩, .int .i64 (s.worn i), .bool (s.dead i), .bool (s.mark i)] .exact]) ++ [Blk.cells [.bool (s.dead i)] .exact] = G2 at a2 hG2 hK2
        have hnot : ∀ k, k < H.length → ∀ x, t.p = some x → x.1 ≠ k := fun k hk x hx e => by have := hb x hx; omega
        have hown : ∀ k, a.own k → k < H.length := fun k hk => h.own_lt hk
        refine ⟨⟨i + 1, hlt, rfl, by simp [hl], by rw [arrC]; exact a2, ?_, ⟨by rw [grownH_length]; have := hK2.len; omega, fun k hk _ => ?_⟩, ?_⟩, by simp; omega⟩
        · refine hG2.keep (F := fun k => H.length ≤ k) ⟨by rw [grownH_length]; omega, fun k hk hf => grownH_get hk (hnot k (by omega))⟩ fun k hk => by have := hown k hk; omega
        · rw [grownH_get (Nat.lt_of_lt_of_le hk hK2.len) (hnot k hk)]; exact hK2.same k hk id
        · intro x hx
          cases hx
          exact hK2.len
      · have : i = a.B := by omega
        subst this
        simp only [decide_eq_false (show ¬ ((a.B : Nat) : Int) < (a.B : Int) by omega), cond_f, Round]
        exact ⟨hg, hG, hK⟩) (⟨none, 0, 0⟩, 0, ()) H ⟨0, Nat.zero_le _, rfl, rfl, Grown.ni H 1, h, Keep.refl _ _, fun x hx => by cases hx⟩
  refine ⟨x.1, G, ?_, Row.grown l2.1, l2.2⟩
  simp only [Option.isNone_some, cond_f, bind_some, Nat.zero_add, h.rbb, l1]
end
end Ev
namespace Ev
open Go (IntKind)

theorem rep_arr (n : Nat) (z : List C) : rep n z = arrC n (fun _ => z) := by
  unfold rep
  induction n with
  | zero => rfl
  | succ n ih =>
    rw [arrC, ← ih, List.replicate_succ']
    simp
theorem mkS_of {H : Heap} {bytes : Nat} {zero : List C} {n : Nat} (h : n * bytes ≤ 35184372088832) (h2 : n ≤ 35184372088832) : mkS H bytes zero (n : Int) (n : Int) = some (⟨some (H.length, 0), n, n⟩, H ++ [.cells (arrC n fun _ => zero) .exact]) := by
  unfold mkS
  have : decide (0 ≤ (n : Int) ∧ (n : Int) ≤ (n : Int) ∧ (n : Int).toNat * bytes ≤ maxRow ∧ (n : Int).toNat ≤ maxRow) = true := decide_eq_true ⟨by omega, by omega, by unfold maxRow; rw [Int.toNat_natCast]; exact h, by unfold maxRow; omega⟩
  rw [this, cond_t, Int.toNat_natCast, rep_arr]

/-- A chip at its beginning. -/
def Nd.new (cuts : List Cut) (fails bad : List Int) : Nd :=
  { pages := fun _ _ => [], worn := fun _ => 0, dead := fun i => decide ((i : Int) ∈ bad), mark := fun i => decide ((i : Int) ∈ bad), cuts := cuts, fails := fails, did := 0, off := false }

theorem new_no {g : Geo} {f : Sl × Sl × Sl × Unit} (H : Heap) (hg : geoOK g = false) : ∃ H', nand_New g f H = some ((none, 1, ()), H') ∧ Keep (fun _ => False) H H' := by
  unfold nand_New
  refine ⟨_, ?_, (Keep.push _ _ (.cells [.int .i64 g.1, .int .i64 g.2.1, .int .i64 g.2.2.1] .exact)).trans (Keep.push _ _ (.cells [.sl 3 f.1, .sl 1 f.2.1, .sl 1 f.2.2.1] .exact))⟩
  have r := rd_geo (H := (H ++ [Blk.cells [.int .i64 g.1, .int .i64 g.2.1, .int .i64 g.2.2.1] .exact]) ++ [Blk.cells [.sl 3 f.1, .sl 1 f.2.1, .sl 1 f.2.2.1] .exact]) (k := H.length) (g := g) (bk := .exact) (by rw [app_lt (by simp)]; exact app_last)
  have e : nand_Check (g.1, g.2.1, g.2.2.1, ()) = some (geoOK g, ()) := nand_Check_eq g
  simp only [r, bind_some, e, hg, Bool.not_false, cond_t]

def blk0 : List C := [.sl 1 Sl.nil, .int .i64 0, .bool false, .bool false]
def blk1 (L P : Nat) (bad : List Int) (i : Nat) : List C := [.sl 1 ⟨some (L + i, 0), P, P⟩, .int .i64 0, .bool (decide ((i : Int) ∈ bad)), .bool (decide ((i : Int) ∈ bad))]
theorem blkI_len (L P : Nat) (bad : List Int) (n : Nat) : ∀ i, (if i < n then blk1 L P bad i else blk0).length = 4 := by
  intro i; split <;> rfl

set_option maxHeartbeats 1000000 in
theorem new_loop {H H1 : Heap} {r15 : (Sl × Unit) × Heap} {G0 : Heap} {B P S : Nat} {bb : Nat} {cells : List C} {fb : Sl} {bad : List Int} (hB : B ≤ 4294967296) (hP : P ≤ 4294967296)
    (hc : G0[r15.2.length]? = some (.cells cells .exact)) (hc3 : cells[3]? = some (.sl 4 ⟨some (bb, 0), B, B⟩)) (hl : ∃ gcs bk, G0[H.length]? = some (.cells gcs bk) ∧ gcs[1]? = some (.int .i64 (P : Int)))
    (hf : ∃ fcs bk, G0[H1.length]? = some (.cells fcs bk) ∧ fcs[2]? = some (.sl 1 fb)) (hbad : Row G0 1 fb (intC bad)) (hbl : bad.length < 4611686018427387904) (hbb : G0[bb]? = some (.cells (arrC B fun _ => blk0) .exact))
    (n1 : r15.2.length ≠ bb) (n2 : H.length ≠ bb) (n3 : H1.length ≠ bb) (n4 : ∀ k o, fb.p = some (k, o) → k ≠ bb) :
    ∃ G, loopW (nand_New.s1 H H1 r15 ⟨some (bb, 0), B, B⟩) (0, ()) G0 = some ((), G) ∧ G[bb]? = some (.cells (arrC B (blk1 G0.length P bad)) .exact) ∧ (∀ i, i < B → G[G0.length + i]? = some (.cells (arrC P fun _ => [C.str []]) .exact)) ∧ Keep (fun k => k = bb) G0 G := by
  obtain ⟨y, G, l1, l2⟩ := loopW_run (step := nand_New.s1 H H1 r15 ⟨some (bb, 0), B, B⟩) (fun t G => ∃ i : Nat, i ≤ B ∧ t.1 = (i : Int) ∧ G.length = G0.length + i ∧ G[bb]? = some (.cells (arrC B fun j => if j < i then blk1 G0.length P bad j else blk0) .exact) ∧ (∀ j, j < i → G[G0.length + j]? = some (.cells (arrC P fun _ => [C.str []]) .exact)) ∧ Keep (fun k => k = bb) G0 G)
    (fun _ G => G[bb]? = some (.cells (arrC B (blk1 G0.length P bad)) .exact) ∧ (∀ i, i < B → G[G0.length + i]? = some (.cells (arrC P fun _ => [C.str []]) .exact)) ∧ Keep (fun k => k = bb) G0 G) (fun t _ => B - t.1.toNat)
    (by
      rintro ⟨j, u⟩ G ⟨i, hi, hj, hlen, hgb, hpg, hK⟩
      have hj : j = (i : Int) := hj
      subst hj
      have hbb0 := get_lt hbb
      unfold nand_New.s1
      by_cases hlt : i < B
      · have c3 : rdSl 4 G r15.2.length 3 = some ⟨some (bb, 0), B, B⟩ := rdSl_of (hK.get hc n1) hc3
        obtain ⟨gcs, gk, g1, g2⟩ := hl
        obtain ⟨fcs, fk, f1, f2⟩ := hf
        have cP : rdI .i64 G H.length 1 = some (P : Int) := rdI_of (hK.get g1 n2) g2
        have hat : Sl.at 4 ⟨some (bb, 0), B, B⟩ (i : Int) = some (bb, i * 4) := by rw [at_of (by omega) (by omega), Int.toNat_natCast, Nat.zero_add]
        have hbG := get_lt hgb
        -- pages
        let G1 : Heap := G ++ [.cells (arrC P fun _ => [C.str []]) .exact]
        have k1 : Keep (fun k => k = bb) G0 G1 := hK.trans (Keep.push _ _ _)
        have b1 : G1[bb]? = some (.cells (arrC B fun j => if j < i then blk1 G0.length P bad j else blk0) .exact) := by rw [app_lt hbG]; exact hgb
        have al := arrC_length (blkI_len G0.length P bad i) B
        have w1 : wr G1 bb (i * 4) [.sl 1 ⟨some (G0.length + i, 0), P, P⟩] = some (G1.set bb (.cells ((arrC B fun j => if j < i then blk1 G0.length P bad j else blk0).set (i * 4) (.sl 1 ⟨some (G0.length + i, 0), P, P⟩)) .exact)) :=
          wr1_of b1 (by decide) (by rw [al]; have := lt_mul (j := 0) hlt (show 0 < 4 by decide); omega)
        have k2 : Keep (fun k => k = bb) G0 (G1.set bb (.cells ((arrC B fun j => if j < i then blk1 G0.length P bad j else blk0).set (i * 4) (.sl 1 ⟨some (G0.length + i, 0), P, P⟩)) .exact)) := k1.trans (Keep.set _ _ _ rfl)
        have b2 := set_get (x := .cells ((arrC B fun j => if j < i then blk1 G0.length P bad j else blk0).set (i * 4) (.sl 1 ⟨some (G0.length + i, 0), P, P⟩)) .exact) (get_lt b1)
        have p2 : (G1.set bb (.cells ((arrC B fun j => if j < i then blk1 G0.length P bad j else blk0).set (i * 4) (.sl 1 ⟨some (G0.length + i, 0), P, P⟩)) .exact))[G0.length + i]? = some (.cells (arrC P fun _ => [C.str []]) .exact) := by
          rw [set_get' (by omega), ← hlen]; exact app_last
        have p2' : ∀ j, j < i → (G1.set bb (.cells ((arrC B fun j => if j < i then blk1 G0.length P bad j else blk0).set (i * 4) (.sl 1 ⟨some (G0.length + i, 0), P, P⟩)) .exact))[G0.length + j]? = some (.cells (arrC P fun _ => [C.str []]) .exact) := by
          intro j hj
          rw [set_get' (by omega), app_lt (by omega)]; exact hpg j hj
        have l2 : (G1.set bb (.cells ((arrC B fun j => if j < i then blk1 G0.length P bad j else blk0).set (i * 4) (.sl 1 ⟨some (G0.length + i, 0), P, P⟩)) .exact)).length = G0.length + (i + 1) := by
          simp [G1, hlen]; omega
        have a2 := arrC_set (blkI_len G0.length P bad i) (j := 0) (by decide) (.sl 1 ⟨some (G0.length + i, 0), P, P⟩) hlt
        rw [Nat.add_zero] at a2
        rw [a2] at w1 k2 b2 p2 p2' l2
        have mk : mkS G 16 [.str []] (P : Int) (P : Int) = some (⟨some (G0.length + i, 0), P, P⟩, G1) := by rw [mkS_of (by omega) (by omega), hlen]
        generalize hG2 : G1.set bb (.cells (arrC B fun k => if k = i then (if i < i then blk1 G0.length P bad i else blk0).set 0 (.sl 1 ⟨some (G0.length + i, 0), P, P⟩) else if k < i then blk1 G0.length P bad k else blk0) .exact) = G2 at w1 k2 b2 p2 p2' l2
        have c3' : rdSl 4 G2 r15.2.length 3 = some ⟨some (bb, 0), B, B⟩ := rdSl_of (k2.get hc n1) hc3
        have cb : rdSl 1 G2 H1.length 2 = some fb := rdSl_of (k2.get f1 n3) f2
        have hct := contains_eq (hbad.keep k2 fun b o hp => n4 b o hp) hbl (i : Int)
        have hf4 : ∀ k, (if k = i then (if i < i then blk1 G0.length P bad i else blk0).set 0 (.sl 1 ⟨some (G0.length + i, 0), P, P⟩) else if k < i then blk1 G0.length P bad k else blk0).length = 4 := by
          intro k; split
          · rw [if_neg (Nat.lt_irrefl i)]; rfl
          · exact blkI_len G0.length P bad i k
        -- mark
        have w3 := wr1_of (o := i * 4 + 3) (c := .bool (decide ((i : Int) ∈ bad))) b2 (by decide) (by rw [arrC_length hf4]; exact lt_mul hlt (by decide))
        rw [arrC_set hf4 (by decide) _ hlt] at w3
        have k3 := k2.trans (Keep.set (F := fun k => k = bb) G2 bb (.cells (arrC B fun k => if k = i then (if i = i then (if i < i then blk1 G0.length P bad i else blk0).set 0 (.sl 1 ⟨some (G0.length + i, 0), P, P⟩) else if i < i then blk1 G0.length P bad i else blk0).set 3 (.bool (decide ((i : Int) ∈ bad))) else (if k = i then (if i < i then blk1 G0.length P bad i else blk0).set 0 (.sl 1 ⟨some (G0.length + i, 0), P, P⟩) else if k < i then blk1 G0.length P bad k else blk0)) .exact) rfl)
        have b3 := set_get (x := .cells (arrC B fun k => if k = i then (if i = i then (if i < i then blk1 G0.length P bad i else blk0).set 0 (.sl 1 ⟨some (G0.length + i, 0), P, P⟩) else if i < i then blk1 G0.length P bad i else blk0).set 3 (.bool (decide ((i : Int) ∈ bad))) else (if k = i then (if i < i then blk1 G0.length P bad i else blk0).set 0 (.sl 1 ⟨some (G0.length + i, 0), P, P⟩) else if k < i then blk1 G0.length P bad k else blk0)) .exact) (get_lt b2)
        have ecng : (arrC B fun k => if k = i then (if i = i then (if i < i then blk1 G0.length P bad i else blk0).set 0 (.sl 1 ⟨some (G0.length + i, 0), P, P⟩) else if i < i then blk1 G0.length P bad i else blk0).set 3 (.bool (decide ((i : Int) ∈ bad))) else (if k = i then (if i < i then blk1 G0.length P bad i else blk0).set 0 (.sl 1 ⟨some (G0.length + i, 0), P, P⟩) else if k < i then blk1 G0.length P bad k else blk0))
            = arrC B fun k => if k = i then [.sl 1 ⟨some (G0.length + i, 0), P, P⟩, .int .i64 0, .bool false, .bool (decide ((i : Int) ∈ bad))] else if k < i then blk1 G0.length P bad k else blk0 := by
          refine arrC_congr fun k _ => ?_
          by_cases e : k = i
          · rw [if_pos e, if_pos e, if_pos rfl, if_neg (Nat.lt_irrefl i)]; rfl
          · rw [if_neg e, if_neg e, if_neg e]
        rw [ecng] at w3 k3 b3
        have p3 : ∀ j, j < i + 1 → (G2.set bb (.cells (arrC B fun k => if k = i then [.sl 1 ⟨some (G0.length + i, 0), P, P⟩, .int .i64 0, .bool false, .bool (decide ((i : Int) ∈ bad))] else if k < i then blk1 G0.length P bad k else blk0) .exact))[G0.length + j]? = some (.cells (arrC P fun _ => [C.str []]) .exact) := by
          intro j hj
          rw [set_get' (by omega)]
          by_cases e : j = i
          · rw [e]; exact p2
          · exact p2' j (by omega)
        have l3 : (G2.set bb (.cells (arrC B fun k => if k = i then [.sl 1 ⟨some (G0.length + i, 0), P, P⟩, .int .i64 0, .bool false, .bool (decide ((i : Int) ∈ bad))] else if k < i then blk1 G0.length P bad k else blk0) .exact)).length = G0.length + (i + 1) := by rw [List.length_set]; exact l2
        generalize hG3 : G2.set bb (.cells (arrC B fun k => if k = i then [.sl 1 ⟨some (G0.length + i, 0), P, P⟩, .int .i64 0, .bool false, .bool (decide ((i : Int) ∈ bad))] else if k < i then blk1 G0.length P bad k else blk0) .exact) = G3 at w3 k3 b3 p3 l3
        have c3'' : rdSl 4 G3 r15.2.length 3 = some ⟨some (bb, 0), B, B⟩ := rdSl_of (k3.get hc n1) hc3
        have hf5 : ∀ k, (if k = i then [C.sl 1 ⟨some (G0.length + i, 0), P, P⟩, .int .i64 0, .bool false, .bool (decide ((i : Int) ∈ bad))] else if k < i then blk1 G0.length P bad k else blk0).length = 4 := by
          intro k; split
          · rfl
          · exact blkI_len G0.length P bad i k
        have rb : rdB G3 bb (i * 4 + 3) = some (decide ((i : Int) ∈ bad)) := rdB_of b3 (by rw [arrC_get hf5 (by decide) hlt, if_pos rfl]; rfl)
        have w4 := wr1_of (o := i * 4 + 2) (c := .bool (decide ((i : Int) ∈ bad))) b3 (by decide) (by rw [arrC_length hf5]; exact lt_mul hlt (by decide))
        rw [arrC_set hf5 (by decide) _ hlt] at w4
        have efin : (arrC B fun k => if k = i then (if i = i then [C.sl 1 ⟨some (G0.length + i, 0), P, P⟩, .int .i64 0, .bool false, .bool (decide ((i : Int) ∈ bad))] else if i < i then blk1 G0.length P bad i else blk0).set 2 (.bool (decide ((i : Int) ∈ bad))) else (if k = i then [C.sl 1 ⟨some (G0.length + i, 0), P, P⟩, .int .i64 0, .bool false, .bool (decide ((i : Int) ∈ bad))] else if k < i then blk1 G0.length P bad k else blk0))
            = arrC B fun k => if k < i + 1 then blk1 G0.length P bad k else blk0 := by
          refine arrC_congr fun k _ => ?_
          by_cases e : k = i
          · subst e; rw [if_pos rfl, if_pos rfl, if_pos (by omega)]; rfl
          · rw [if_neg e, if_neg e]
            by_cases e2 : k < i
            · rw [if_pos e2, if_pos (by omega)]
            · rw [if_neg e2, if_neg (by omega)]
        rw [efin] at w4
        simp only [decide_eq_true (show (i : Int) < (B : Int) by omega), cond_t, c3, bind_some, cP, mk, hat, w1, c3', cb, hct, if_true, w3, c3'', rb, w4, Round, wrap_succ (show i < 9223372036854775807 by omega)]
        refine ⟨⟨i + 1, hlt, rfl, by rw [List.length_set]; exact l3, set_get (get_lt b3), fun j hj => ?_, k3.trans (Keep.set _ _ _ rfl)⟩, by simp; omega⟩
        rw [set_get' (by omega)]; exact p3 j hj
      · have : i = B := by omega
        subst this
        simp only [decide_eq_false (show ¬ ((i : Nat) : Int) < (i : Int) by omega), cond_f, Round]
        refine ⟨?_, hpg, hK⟩
        rw [hgb]
        congr 2
        exact arrC_congr fun k hk => by rw [if_pos hk]) (0, ()) G0 ⟨0, Nat.zero_le _, rfl, rfl, by rw [hbb]; simp, fun j hj => absurd hj (Nat.not_lt_zero _), Keep.refl _ _⟩
  exact ⟨G, l1, l2⟩
end Ev
namespace Ev
open Go (IntKind)

theorem new_yes {B P S : Nat} {f : Sl × Sl × Sl × Unit} {cuts : List Cut} {fails bad : List Int} (H : Heap) (hg : geoOK ((B : Int), (P : Int), (S : Int), ()) = true) (hcu : Row H 3 f.1 (cutC cuts)) (hfa : Row H 1 f.2.1 (intC fails)) (hba : Row H 1 f.2.2.1 (intC bad))
    (hl1 : cuts.length ≤ 1099511627776) (hl2 : fails.length ≤ 1099511627776) (hl3 : bad.length ≤ 1099511627776) :
    ∃ H' a, nand_New ((B : Int), (P : Int), (S : Int), ()) f H = some ((some (a.c, 0), 0, ()), H') ∧ NdAt H' a (Nd.new cuts fails bad) ∧ Keep (fun _ => False) H H' ∧ a.B = B ∧ a.P = P ∧ a.S = S ∧ ∀ k, a.own k → H.length ≤ k := by
  have hg' := of_decide_eq_true hg
  simp only at hg'
  unfold nand_New
  -- locals
  let g : Geo := ((B : Int), (P : Int), (S : Int), ())
  let gB : Blk := .cells [.int .i64 (B : Int), .int .i64 (P : Int), .int .i64 (S : Int)] .exact
  let fB : Blk := .cells [.sl 3 f.1, .sl 1 f.2.1, .sl 1 f.2.2.1] .exact
  let H1 : Heap := H ++ [gB]
  let H2 : Heap := H1 ++ [fB]
  let H3 : Heap := H2 ++ [.cells (arrC B fun _ => blk0) .exact]
  have e1 : H1.length = H.length + 1 := by simp [H1]
  have e2 : H2.length = H.length + 2 := by simp [H2, H1]
  have e3 : H3.length = H.length + 3 := by simp [H3, H2, H1]
  have k3 : Keep (fun _ => False) H H3 := ((Keep.push _ _ _).trans (Keep.push _ _ _)).trans (Keep.push _ _ _)
  have g2 : H2[H.length]? = some gB := by rw [app_lt (by omega)]; exact app_last
  have g3 : H3[H.length]? = some gB := by rw [app_lt (by omega)]; exact g2
  have f3 : H3[H1.length]? = some fB := by rw [app_lt (by omega)]; exact app_last
  have b3 : H3[H2.length]? = some (.cells (arrC B fun _ => blk0) .exact) := app_last
  have hmk : mkS H2 40 [.sl 1 Sl.nil, .int .i64 0, .bool false, .bool false] (B : Int) (B : Int) = some (⟨some (H2.length, 0), B, B⟩, H3) := mkS_of (by omega) (by omega)
  have nof : ∀ k, (fun _ : Nat => False) k → False := fun _ => id
  have hcu3 := hcu.keep k3 fun _ _ _ => id
  have hcl : f.1.len = cuts.length := by have := hcu.len; rw [cutC_length] at this; omega
  have hfl : f.2.1.len = fails.length := hfa.int_len
  obtain ⟨t1, H4, c1, c2, c3, c4, c5⟩ := clone_cut hcu3 (by omega)
  have k4 := k3.trans c3
  have hfa4 := hfa.keep k4 fun _ _ _ => id
  obtain ⟨t2, H5, d1, d2, d3, d4, d5⟩ := clone_int hfa4 (by omega)
  have k5 := k4.trans d3
  have g4 := c3.get g3 id
  have f4 := c3.get f3 id
  have b4 := c3.get b3 id
  have g5 := d3.get g4 id
  have f5 := d3.get f4 id
  have b5 := d3.get b4 id
  have h43 := c3.len
  have h54 := d3.len
  let cB : Blk := .cells [.int .i64 (B : Int), .int .i64 (P : Int), .int .i64 (S : Int), .sl 4 ⟨some (H2.length, 0), B, B⟩, .sl 3 t1, .sl 1 t2, .int .i64 0, .bool false] .exact
  let H6 : Heap := H5 ++ [cB]
  have e6 : H6.length = H5.length + 1 := by simp [H6]
  have g6 : H6[H.length]? = some gB := by rw [app_lt (get_lt g5)]; exact g5
  have f6 : H6[H1.length]? = some fB := by rw [app_lt (get_lt f5)]; exact f5
  have b6 : H6[H2.length]? = some (.cells (arrC B fun _ => blk0) .exact) := by rw [app_lt (get_lt b5)]; exact b5
  have cc6 : H6[H5.length]? = some cB := app_last
  have k6 := k5.trans (Keep.push _ _ cB)
  have hba6 := hba.keep k6 fun _ _ _ => id
  obtain ⟨G, l1, l2, l3, l4⟩ := new_loop (H := H) (H1 := H1) (r15 := ((t2, ()), H5)) (G0 := H6) (B := B) (P := P) (S := S) (bb := H2.length) (fb := f.2.2.1) (bad := bad) (by omega) (by omega) cc6 rfl ⟨_, _, g6, rfl⟩ ⟨_, _, f6, rfl⟩ hba6 (by omega) b6
    (by show H5.length ≠ H2.length; omega) (by omega) (by omega) (fun k o hp e => by have := hba.lt hp; omega)
  have r2 := rd_geo (H := H2) (g := g) (bk := .exact) g2
  have r4 := rd_geo (H := H4) (g := g) (bk := .exact) g4
  have r6 := rd_geo (H := H6) (g := g) (bk := .exact) g6
  have i2 : rdI .i64 H2 H.length 0 = some (B : Int) := rdI_of g2 rfl
  have i4 : rdI .i64 H4 H.length 0 = some (B : Int) := rdI_of g4 rfl
  have i6 : rdI .i64 H6 H.length 0 = some (B : Int) := rdI_of g6 rfl
  have s3 : rdSl 3 H3 H1.length 0 = some f.1 := rdSl_of f3 rfl
  have s3' : rdSl 1 H3 H1.length 1 = some f.2.1 := rdSl_of f3 rfl
  have s4 : rdSl 1 H4 H1.length 1 = some f.2.1 := rdSl_of f4 rfl
  have s6 : rdSl 4 H6 H5.length 3 = some ⟨some (H2.length, 0), B, B⟩ := rdSl_of cc6 rfl
  have chk : nand_Check (g.1, g.2.1, g.2.2.1, ()) = some (true, ()) := by rw [show nand_Check (g.1, g.2.1, g.2.2.1, ()) = some (geoOK g, ()) from nand_Check_eq g]; rw [hg]
  have st4 : H4[H2.length]? = some (.cells (rep (Int.toNat (B : Int)) [.sl 1 Sl.nil, .int .i64 0, .bool false, .bool false]) .exact) := by rw [b4, Int.toNat_natCast, rep_arr]; rfl
  have st6 : H6[H2.length]? = some (.cells (rep (Int.toNat (B : Int)) [.sl 1 Sl.nil, .int .i64 0, .bool false, .bool false]) .exact) := by rw [b6, Int.toNat_natCast, rep_arr]; rfl
  refine ⟨G, ⟨H5.length, H2.length, fun i => H6.length + i, B, P, S, t1, t2⟩, ?_, ?_, ?_, rfl, rfl, rfl, ?_⟩
  · have q1 : (H ++ [Blk.cells [.int .i64 (B : Int), .int .i64 (P : Int), .int .i64 (S : Int)] .exact]) = H1 := rfl
    simp only [q1]
    have q2 : (H1 ++ [Blk.cells [.sl 3 f.1, .sl 1 f.2.1, .sl 1 f.2.2.1] .exact]) = H2 := rfl
    simp only [q2, r2, bind_some, chk, Bool.not_true, cond_f, i2, hmk, s3, s3', c1, r4, if_true, i4, st4, s4, d1]
    have q3 : (H5 ++ [Blk.cells [.int .i64 g.1, .int .i64 g.2.1, .int .i64 g.2.2.1, .sl 4 ⟨some (H2.length, 0), B, B⟩, .sl 3 t1, .sl 1 t2, .int .i64 0, .bool false] .exact]) = H6 := rfl
    simp only [q3, r6, bind_some, if_true, i6, st6, s6, l1]
  · have hk := l4
    refine { cell := ?_, blks := ?_, pgs := fun i hi => ?_, cuts := ?_, fails := ?_, cb := ?_, cp := fun i hi => ?_, bp := fun i hi => ?_, pp := fun i j _ _ e => ?_, csn := fun k o hp hf => ?_, fsn := fun k o hp hf => ?_, sz := ⟨?_, ?_, ?_⟩, ln := ⟨hl1, hl2⟩ }
    · exact hk.get cc6 (by show H5.length ≠ H2.length; omega)
    · exact l2
    · exact l3 i hi
    · exact ((c2.keep d3 fun _ _ _ => id).push cB).keep hk fun k o hp e => by have := c5 k o hp; omega
    · exact (d2.push cB).keep hk fun k o hp e => by have := d5 k o hp; omega
    · show H5.length ≠ H2.length; omega
    · show H5.length ≠ H6.length + i; omega
    · show H2.length ≠ H6.length + i; omega
    · have e : H6.length + i = H6.length + j := e
      omega
    · have h1 := c5 k o hp
      have h2 := (c2.lt hp)
      rcases hf with e | e | ⟨i, _, e⟩
      · have e : k = H5.length := e
        omega
      · have e : k = H2.length := e
        omega
      · have e : k = H6.length + i := e
        omega
    · have h1 := d5 k o hp
      have h2 := (d2.lt hp)
      rcases hf with e | e | ⟨i, _, e⟩
      · have e : k = H5.length := e
        omega
      · have e : k = H2.length := e
        omega
      · have e : k = H6.length + i := e
        omega
    · show B ≤ 4294967296; omega
    · show P ≤ 4294967296; omega
    · show S ≤ 4294967296; omega
  · refine ⟨Nat.le_trans k6.len l4.len, fun k hk _ => ?_⟩
    rw [l4.same k (Nat.lt_of_lt_of_le hk k6.len) (by show ¬ k = H2.length; omega)]
    exact k6.same k hk id
  · intro k hk
    rcases hk with (e | e | ⟨i, _, e⟩) | ⟨o, ho⟩ | ⟨o, ho⟩
    · have e : k = H5.length := e
      omega
    · have e : k = H2.length := e
      omega
    · have e : k = H6.length + i := e
      omega
    · have := c5 k o ho; omega
    · have := d5 k o ho; omega

end Ev
namespace Ev
open Go (IntKind)

theorem read_lay {a : NdA} {s : Nd} {b p : Nat} {t : Bytes} (ht : t.length = a.S + 32) (k q : Nat) : (s.lay a b p t).read a k q = if k = b ∧ q = p then t else s.read a k q := by
  unfold Nd.read Nd.lay upd2
  simp only
  by_cases h : k = b ∧ q = p
  · rw [if_pos h, if_pos h]
    by_cases hf : t = fullP a
    · rw [if_pos hf, if_pos rfl]; exact hf.symm
    · rw [if_neg hf, if_neg]
      intro hn; rw [hn] at ht; simp at ht
  · rw [if_neg h, if_neg h]
theorem read_clear {a : NdA} {s : Nd} {b n : Nat} (k q : Nat) : (s.clear b n).read a k q = if k = b ∧ q < n then fullP a else s.read a k q := by
  unfold Nd.read Nd.clear
  simp only
  by_cases h : k = b ∧ q < n
  · rw [if_pos h, if_pos h, if_pos rfl]
  · rw [if_neg h, if_neg h]

/-- Pages are erased, or whole texts that are not the erased page's. -/
def Fine (a : NdA) (s : Nd) : Prop := ∀ b p, s.pages b p = [] ∨ ((s.pages b p).length = a.S + 32 ∧ s.pages b p ≠ fullP a)
theorem Fine.lay {a : NdA} {s : Nd} (h : Fine a s) {b p : Nat} {t : Bytes} (ht : t.length = a.S + 32) : Fine a (s.lay a b p t) := by
  intro k q
  unfold Nd.lay upd2
  simp only
  by_cases hk : k = b ∧ q = p
  · rw [if_pos hk]
    by_cases hf : t = fullP a
    · rw [if_pos hf]; exact .inl rfl
    · rw [if_neg hf]; exact .inr ⟨ht, hf⟩
  · rw [if_neg hk]; exact h k q
theorem Fine.clear {a : NdA} {s : Nd} (h : Fine a s) (b n : Nat) : Fine a (s.clear b n) := by
  intro k q
  unfold Nd.clear
  simp only
  by_cases hk : k = b ∧ q < n
  · rw [if_pos hk]; exact .inl rfl
  · rw [if_neg hk]; exact h k q
theorem Fine.read {a : NdA} {s : Nd} (h : Fine a s) (b p : Nat) : (s.read a b p).length = a.S + 32 := by
  unfold Nd.read
  split
  · simp [fullP]
  · rename_i hn
    exact ((h b p).resolve_left hn).1
end Ev
namespace Ev
open Go (IntKind)

/-- What holds of a chip whatever is done: counts within D, fills are bytes, pages whole. -/
structure Wf (a : NdA) (s : Nd) (D : Int) : Prop where
  did : 0 ≤ s.did ∧ s.did ≤ D
  worn : ∀ b, 0 ≤ s.worn b ∧ s.worn b ≤ D
  cuts : ∀ x ∈ s.cuts, 0 ≤ x.2.2.1 ∧ x.2.2.1 < 256
  fine : Fine a s
  small : D ≤ 1000000
  sz : 1 ≤ a.B ∧ a.B ≤ 1000 ∧ 1 ≤ a.P ∧ a.P ≤ 1000 ∧ a.S ≤ 1000

def Nd.progT (a : NdA) (s : Nd) (b p : Int) (d sp : Bytes) : Int × Nd :=
  if s.inE a b p ≠ 0 then (s.inE a b p, s) else if d.length ≠ a.S ∨ sp.length ≠ 32 then (1, s) else if s.used a b.toNat p.toNat = true then (52, s) else s.program a b.toNat p.toNat (d ++ sp)
def Nd.eraseT (a : NdA) (s : Nd) (b : Int) : Int × Nd := if s.inE a b 0 ≠ 0 then (s.inE a b 0, s) else s.erase a b.toNat
def Nd.markT (a : NdA) (s : Nd) (b : Int) : Int × Nd := if s.inE a b 0 ≠ 0 then (s.inE a b 0, s) else s.domark b.toNat
def Nd.readT (a : NdA) (s : Nd) (b p : Int) : Bytes × Bytes × Int × Unit := if s.inE a b p ≠ 0 then ([], [], s.inE a b p, ()) else ((s.read a b.toNat p.toNat).take a.S, (s.read a b.toNat p.toNat).drop a.S, 0, ())
def Nd.markedT (a : NdA) (s : Nd) (b : Int) : Bool × Int × Unit := if s.inE a b 0 ≠ 0 then (false, s.inE a b 0, ()) else (s.mark b.toNat, 0, ())

theorem in_zero {a : NdA} {s : Nd} {b p : Int} (h : s.inE a b p = 0) : s.off = false ∧ ∃ i q : Nat, b = (i : Int) ∧ p = (q : Int) ∧ i < a.B ∧ q < a.P := by
  unfold Nd.inE at h
  split at h
  · exact absurd h (by decide)
  · rename_i ho
    split at h
    · exact absurd h (by decide)
    · rename_i hb
      refine ⟨by simpa using ho, b.toNat, p.toNat, by omega, by omega, by omega, by omega⟩

section
variable {H : Heap} {a : NdA} {s : Nd} {D : Int}

theorem nand_programT (h : NdAt H a s) (w : Wf a s D) (b p : Int) (d sp : Bytes) : ∃ H', nand_Chip_Program (some (a.c, 0)) b p d sp H = some (((s.progT a b p d sp).1, ()), H') ∧ NdAt H' a (s.progT a b p d sp).2 ∧ Keep a.fp H H' := by
  have hdd := w.did
  have hsm := w.small
  unfold Nd.progT
  by_cases he : s.inE a b p = 0
  · rw [if_neg (by simpa using he)]
    obtain ⟨ho, i, q, rfl, rfl, hi, hq⟩ := in_zero he
    by_cases hl : d.length ≠ a.S ∨ sp.length ≠ 32
    · rw [if_pos hl]
      exact ⟨H, prog_len h he hl, h, Keep.refl _ _⟩
    · rw [if_neg hl]
      have h1 : d.length = a.S := by omega
      have h2 : sp.length = 32 := by omega
      rw [Int.toNat_natCast, Int.toNat_natCast]
      cases hu : s.used a i q with
      | true => exact ⟨H, prog_used h ho hi hq h1 h2 hu, h, Keep.refl _ _⟩
      | false =>
        simp only [Bool.false_eq_true, if_false]
        exact nand_program h (by omega) w.cuts ho hi hq h1 h2 hu
  · rw [if_pos he]
    exact ⟨H, prog_refused h he d sp, h, Keep.refl _ _⟩
theorem nand_eraseT (h : NdAt H a s) (w : Wf a s D) (b : Int) : ∃ H', nand_Chip_Erase (some (a.c, 0)) b H = some (((s.eraseT a b).1, ()), H') ∧ NdAt H' a (s.eraseT a b).2 ∧ Keep a.fp H H' := by
  have hdd := w.did
  have hsm := w.small
  unfold Nd.eraseT
  by_cases he : s.inE a b 0 = 0
  · rw [if_neg (by simpa using he)]
    obtain ⟨ho, i, q, rfl, _, hi, hq⟩ := in_zero he
    have hww := w.worn i
    rw [Int.toNat_natCast]
    exact nand_erase h (by omega) w.cuts ho hi (by omega) (by omega)
  · rw [if_pos he]
    exact ⟨H, erase_refused h he, h, Keep.refl _ _⟩
theorem nand_readT (h : NdAt H a s) (w : Wf a s D) (b p : Int) : ∃ H', nand_Chip_Read (some (a.c, 0)) b p H = some (s.readT a b p, H') ∧ NdAt H' a s ∧ Keep (fun _ => False) H H' := by
  unfold Nd.readT
  by_cases he : s.inE a b p = 0
  · rw [if_neg (by simpa using he)]
    obtain ⟨ho, i, q, rfl, rfl, hi, hq⟩ := in_zero he
    rw [Int.toNat_natCast, Int.toNat_natCast]
    have hf : s.pages i q = [] ∨ (s.pages i q).length = a.S + 32 := by
      rcases w.fine i q with h | h
      · exact .inl h
      · exact .inr h.1
    exact nand_read h ho hi hq hf
  · rw [if_pos he]
    exact ⟨H, read_refused h he, h, Keep.refl _ _⟩
theorem Wf.acted (w : Wf a s D) (hD : D < 1000000) : Wf a s.acted (D + 1) := ⟨by have := w.did; show 0 ≤ s.did + 1 ∧ s.did + 1 ≤ D + 1; omega, fun b => by have := w.worn b; show 0 ≤ s.worn b ∧ s.worn b ≤ D + 1; omega, w.cuts, w.fine, by omega, w.sz⟩
theorem Wf.le (w : Wf a s D) {D' : Int} (h : D ≤ D') (h2 : D' ≤ 1000000) : Wf a s D' := ⟨by have := w.did; omega, fun b => by have := w.worn b; omega, w.cuts, w.fine, h2, w.sz⟩
theorem Wf.lay (w : Wf a s D) {b p : Nat} {t : Bytes} (ht : t.length = a.S + 32) : Wf a (s.lay a b p t) D := ⟨w.did, w.worn, w.cuts, w.fine.lay ht, w.small, w.sz⟩
theorem Wf.clear (w : Wf a s D) (b n : Nat) : Wf a (s.clear b n) D := ⟨w.did, w.worn, w.cuts, w.fine.clear b n, w.small, w.sz⟩
theorem Wf.progT (w : Wf a s D) (hD : D < 1000000) (b p : Int) (d sp : Bytes) : Wf a (s.progT a b p d sp).2 (D + 1) ∧ (s.progT a b p d sp).2.did ≤ s.did + 1 ∧ s.did ≤ (s.progT a b p d sp).2.did := by
  unfold Nd.progT
  split
  · exact ⟨w.le (by omega) (by omega), by simp only; omega, Int.le_refl _⟩
  · split
    · exact ⟨w.le (by omega) (by omega), by simp only; omega, Int.le_refl _⟩
    · rename_i hl
      have hl2 : (d ++ sp).length = a.S + 32 := by rw [List.length_append]; omega
      split
      · exact ⟨w.le (by omega) (by omega), by simp only; omega, Int.le_refl _⟩
      · have wa := w.acted hD
        unfold Nd.program
        split
        · exact ⟨wa.lay (by rw [tornB_length]; exact hl2), Int.le_refl _, by show s.did ≤ s.did + 1; omega⟩
        · split
          · exact ⟨(show Wf a { s.acted with dead := upd s.dead b.toNat true } (D + 1) from ⟨wa.did, wa.worn, wa.cuts, wa.fine, wa.small, wa.sz⟩).lay (by rw [List.length_replicate]; exact hl2), Int.le_refl _, by show s.did ≤ s.did + 1; omega⟩
          · exact ⟨wa.lay hl2, Int.le_refl _, by show s.did ≤ s.did + 1; omega⟩
theorem Wf.eraseT (w : Wf a s D) (hD : D < 1000000) (b : Int) : Wf a (s.eraseT a b).2 (D + 1) ∧ (s.eraseT a b).2.did ≤ s.did + 1 ∧ s.did ≤ (s.eraseT a b).2.did := by
  unfold Nd.eraseT
  split
  · exact ⟨w.le (by omega) (by omega), by simp only; omega, Int.le_refl _⟩
  · have wa := w.acted hD
    have wb : Wf a { s.acted with worn := upd s.worn b.toNat (s.worn b.toNat + 1) } (D + 1) := ⟨wa.did, fun c => by
      have h1 := w.worn b.toNat
      have h2 := w.worn c
      show 0 ≤ upd s.worn b.toNat (s.worn b.toNat + 1) c ∧ upd s.worn b.toNat (s.worn b.toNat + 1) c ≤ D + 1
      unfold upd
      split <;> omega, wa.cuts, wa.fine, wa.small, wa.sz⟩
    unfold Nd.erase
    split
    · simp only
      split
      · exact ⟨(wb.clear _ _).lay (by simp), Int.le_refl _, by show s.did ≤ s.did + 1; omega⟩
      · exact ⟨wb.clear _ _, Int.le_refl _, by show s.did ≤ s.did + 1; omega⟩
    · split
      · exact ⟨⟨wb.did, wb.worn, wb.cuts, wb.fine, wb.small, wb.sz⟩, Int.le_refl _, by show s.did ≤ s.did + 1; omega⟩
      · exact ⟨wb.clear _ _, Int.le_refl _, by show s.did ≤ s.did + 1; omega⟩
theorem Wf.markT (w : Wf a s D) (hD : D < 1000000) (b : Int) : Wf a (s.markT a b).2 (D + 1) ∧ (s.markT a b).2.did ≤ s.did + 1 ∧ s.did ≤ (s.markT a b).2.did := by
  unfold Nd.markT
  split
  · exact ⟨w.le (by omega) (by omega), by simp only; omega, Int.le_refl _⟩
  · have wa := w.acted hD
    unfold Nd.domark
    split
    · simp only
      split
      · exact ⟨⟨wa.did, wa.worn, wa.cuts, wa.fine, wa.small, wa.sz⟩, Int.le_refl _, by show s.did ≤ s.did + 1; omega⟩
      · exact ⟨wa, Int.le_refl _, by show s.did ≤ s.did + 1; omega⟩
    · exact ⟨⟨wa.did, wa.worn, wa.cuts, wa.fine, wa.small, wa.sz⟩, Int.le_refl _, by show s.did ≤ s.did + 1; omega⟩
theorem readT_length (w : Wf a s D) (b p : Int) : (s.readT a b p).1.length + (s.readT a b p).2.1.length ≤ 2000 := by
  have := w.sz
  unfold Nd.readT
  split
  · simp
  · have := w.fine.read b.toNat p.toNat
    simp only [List.length_take, List.length_drop]; omega
end
end Ev
