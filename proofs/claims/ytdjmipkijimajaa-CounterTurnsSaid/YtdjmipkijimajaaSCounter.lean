/- The counter: how it stands in the heap, and what write, over, raise do. -/
import Derived.Test.YtdjmipkijimajaaGCounter
import Derived.Test.YtdjmipkijimajaaSPt
import Derived.Test.YtdjmipkijimajaaSCalm
namespace Ev
open Go (IntKind)

structure Ck where
  turn : Nat
  next : Nat
  n : Int
  w : Nat → Int
  dead : Bool

def Ck.cells (a : NdA) (k : Ck) : List C := [.ptr (some (a.c, 0)), .int .i64 0, .int .i64 1, .int .i64 k.turn, .int .i64 k.next, .int .i64 k.n, .int .i64 (k.w 0), .int .i64 (k.w 1), .bool k.dead]
structure CkAt (H : Heap) (c : Nat) (a : NdA) (k : Ck) : Prop where
  cell : H[c]? = some (.cells (k.cells a) .exact)
  turn : k.turn < 2
  not : ¬ a.own c
def frm (a : NdA) (m w : Int) : Bytes := frameB a (numT m w) []
theorem frm_length (a : NdA) (m w : Int) : (frm a m w).length = a.S + 32 := frameB_length (by simp)

/-- A chip that is fit for it: no block fails; sizes and counts are small. -/
structure Fit (a : NdA) (s : Nd) (D : Int) : Prop where
  fails : s.fails = []
  dead : ∀ b, s.dead b = false
  did : 0 ≤ s.did ∧ s.did ≤ D
  worn : ∀ b, 0 ≤ s.worn b ∧ s.worn b ≤ D
  cuts : ∀ x ∈ s.cuts, 0 ≤ x.2.2.1 ∧ x.2.2.1 < 256
  fine : Fine a s
  small : D ≤ 1000000
  sz : 2 ≤ a.B ∧ 1 ≤ a.P ∧ a.P ≤ 1000 ∧ a.S ≤ 1000

section
variable {H : Heap} {a : NdA} {s : Nd} {c : Nat} {k : Ck} {D : Int}

theorem CkAt.keep (h : CkAt H c a k) {F : Nat → Prop} {H' : Heap} (kp : Keep F H H') (hF : ¬ F c) : CkAt H' c a k := ⟨kp.get h.cell hF, h.turn, h.not⟩
theorem CkAt.rp (h : CkAt H c a k) : rdP H c 0 = some (some (a.c, 0)) := rdP_of h.cell rfl
theorem CkAt.rb (h : CkAt H c a k) {t : Nat} (ht : t < 2) : rdI .i64 H c (1 + t) = some (t : Int) := by
  match t, ht with
  | 0, _ => exact rdI_of h.cell rfl
  | 1, _ => exact rdI_of h.cell rfl
theorem CkAt.rturn (h : CkAt H c a k) : rdI .i64 H c 3 = some (k.turn : Int) := rdI_of h.cell rfl
theorem CkAt.rnext (h : CkAt H c a k) : rdI .i64 H c 4 = some (k.next : Int) := rdI_of h.cell rfl
theorem CkAt.rn (h : CkAt H c a k) : rdI .i64 H c 5 = some k.n := rdI_of h.cell rfl
theorem CkAt.rw' (h : CkAt H c a k) {t : Nat} (ht : t < 2) : rdI .i64 H c (6 + t) = some (k.w t) := by
  match t, ht with
  | 0, _ => exact rdI_of h.cell rfl
  | 1, _ => exact rdI_of h.cell rfl
theorem CkAt.rdead (h : CkAt H c a k) : rdB H c 8 = some k.dead := rdB_of h.cell rfl
theorem at2 {t : Nat} (ht : t < 2) (c o : Nat) : arrAt 1 2 (c, o) (t : Int) = some (c, o + t) := by
  unfold arrAt
  have : decide (0 ≤ (t : Int) ∧ (t : Int) < ((2 : Nat) : Int)) = true := decide_eq_true (by omega)
  rw [this, cond_t, Int.toNat_natCast, Nat.mul_one]
/-- A write into the counter. -/
theorem CkAt.wr (h : CkAt H c a k) {j : Nat} {v : C} (k' : Ck) (hj : j < 9) (hc : (k.cells a).set j v = k'.cells a) (ht : k'.turn < 2) : ∃ H', Ev.wr H c j [v] = some H' ∧ CkAt H' c a k' ∧ Keep (fun x => x = c) H H' := by
  refine ⟨_, wr1_of h.cell (by decide) (by simpa [Ck.cells] using hj), ⟨?_, ht, h.not⟩, Keep.set _ _ _ rfl⟩
  rw [set_get (get_lt h.cell), hc]

theorem not_own_fp (h : CkAt H c a k) : ¬ a.fp c := fun hf => h.not (.inl hf)

/-- Value -/
theorem ck_value (h : CkAt H c a k) : counter_Counter_Value (some (c, 0)) H = some ((k.n, ()), H) := by
  unfold counter_Counter_Value
  simp only [Option.isNone_some, cond_f, bind_some, Nat.zero_add, h.rn]

theorem frame_num {m w : Int} (hm : 0 ≤ m ∧ m ≤ 1073741824) (hw : 0 ≤ w ∧ w < 4294967296) (hS : a.S ≤ 1000) : page_Frame (1, IntKind.wrap .u64 m, 0, 1, w, ()) [] (a.S : Int) = some (dataOf [] a.S, spareOf (numT m w) [] a.S, 0, ()) := by
  have e : IntKind.wrap .u64 m = m := by rw [wrap_u64]; omega
  rw [e]
  exact page_Frame_yes (t := numT m w) (numT_ok hw) (by simp only [numT]; omega) (by omega) (by simp)

/-- write -/
theorem ck_write (h : NdAt H a s) (hk : CkAt H c a k) (f : Fit a s D) (ho : s.off = false) {t p : Nat} (ht : t < 2) (hp : p < a.P) {m : Int} (hm : 0 ≤ m ∧ m ≤ 1073741824) (hw : 0 ≤ k.w t ∧ k.w t < 4294967296) (hu : s.used a t p = false) :
    ∃ H', counter_Counter_write (some (c, 0)) (t : Int) (p : Int) m H = some (((s.program a t p (frm a m (k.w t))).1, ()), H') ∧ NdAt H' a (s.program a t p (frm a m (k.w t))).2 ∧ CkAt H' c a k ∧ Keep a.fp H H' := by
  have hsz := f.sz
  have hsm := f.small
  have hdd := f.did
  obtain ⟨H1, g1, g2, g3⟩ := nand_geometry h
  have hk1 := hk.keep g3 id
  obtain ⟨H2, p1, p2, p3⟩ := nand_program g2 (by omega) f.cuts (b := t) (p := p) ho (by omega) hp (d := dataOf [] a.S) (sp := spareOf (numT m (k.w t)) [] a.S) (dataOf_length (by simp)) (spareOf_length _ _ _) hu
  refine ⟨H2, ?_, p2, hk1.keep p3 (not_own_fp hk), (g3.mono fun _ => False.elim).trans p3⟩
  unfold counter_Counter_write
  simp only [bind_some, Nat.zero_add, at2 ht, hk.rw' ht, hk.rp, g1, frame_num hm hw hsz.2.2.2, hk1.rw' ht, if_true, decide_true, Bool.not_true, cond_f, hk1.rp, hk1.rb ht, p1]
  rfl

/-- What writing and erasing tell on such a chip. -/
theorem fit_program (f : Fit a s D) (b p : Nat) (t : Bytes) : (s.program a b p t).1 = 0 ∨ (s.program a b p t).1 = 51 := by
  unfold Nd.program
  cases hc : s.cutNow with
  | some x => exact .inr rfl
  | none =>
    simp only
    rw [if_neg (by rw [f.dead b, failNow_nil f.fails]; simp)]
    exact .inl rfl
theorem fit_erase (f : Fit a s D) (b : Nat) : (s.erase a b).1 = 0 ∨ (s.erase a b).1 = 51 := by
  unfold Nd.erase
  cases hc : s.cutNow with
  | some x => exact .inr rfl
  | none =>
    simp only
    rw [if_neg (by rw [f.dead b, failNow_nil f.fails]; simp)]
    exact .inl rfl
/-- The chip behind a page that was written. -/
def Nd.wrote (a : NdA) (s : Nd) (b p : Nat) (t : Bytes) : Nd := s.acted.lay a b p (match s.cutNow with | some x => tornB x t | none => t)
theorem fit_program_eq (f : Fit a s D) (b p : Nat) (t : Bytes) : s.program a b p t = (if s.cutNow.isSome then 51 else 0, s.wrote a b p t) := by
  unfold Nd.program Nd.wrote
  cases hc : s.cutNow with
  | some x => rfl
  | none =>
    simp only
    rw [if_neg (by rw [f.dead b, failNow_nil f.fails]; simp)]
    rfl
def Nd.erased (a : NdA) (s : Nd) (b : Nat) : Nd :=
  match s.cutNow with
  | some x => if 0 ≤ x.2.1 ∧ x.2.1 < (a.P : Int) then ({ s.acted with worn := upd s.worn b (s.worn b + 1) }.clear b (min x.2.1.toNat a.P)).lay a b x.2.1.toNat (List.replicate (a.S + 32) (UInt8.ofNat x.2.2.1.toNat)) else { s.acted with worn := upd s.worn b (s.worn b + 1) }.clear b (min x.2.1.toNat a.P)
  | none => { s.acted with worn := upd s.worn b (s.worn b + 1) }.clear b a.P
theorem fit_erase_eq (f : Fit a s D) (b : Nat) : s.erase a b = (if s.cutNow.isSome then 51 else 0, s.erased a b) := by
  unfold Nd.erase Nd.erased
  cases hc : s.cutNow with
  | some x => rfl
  | none =>
    simp only
    rw [if_neg (by rw [f.dead b, failNow_nil f.fails]; simp)]
    rfl
theorem fit_wrote (f : Fit a s D) (hD : D < 1000000) {b p : Nat} {t : Bytes} (ht : t.length = a.S + 32) : Fit a (s.wrote a b p t) (D + 1) where
  fails := f.fails
  dead := f.dead
  did := by have := f.did; show 0 ≤ s.did + 1 ∧ s.did + 1 ≤ D + 1; omega
  worn := fun b => by have := f.worn b; show 0 ≤ s.worn b ∧ s.worn b ≤ D + 1; omega
  cuts := f.cuts
  fine := by
    have h1 : Fine a s.acted := f.fine
    refine h1.lay ?_
    cases s.cutNow with
    | some x => simp only; rw [tornB_length]; exact ht
    | none => exact ht
  small := by omega
  sz := f.sz
theorem upd_worn {w : Nat → Int} (h : ∀ b, 0 ≤ w b ∧ w b ≤ D) (b c : Nat) : 0 ≤ upd w b (w b + 1) c ∧ upd w b (w b + 1) c ≤ D + 1 := by
  have h1 := h b
  have h2 := h c
  unfold upd
  split <;> omega
theorem fit_erased (f : Fit a s D) (hD : D < 1000000) {b : Nat} : Fit a (s.erased a b) (D + 1) := by
  have base : Fit a { s.acted with worn := upd s.worn b (s.worn b + 1) } (D + 1) := ⟨f.fails, f.dead, by have := f.did; show 0 ≤ s.did + 1 ∧ s.did + 1 ≤ D + 1; omega, fun c => upd_worn f.worn b c, f.cuts, f.fine, by omega, f.sz⟩
  have clr : ∀ n, Fit a ({ s.acted with worn := upd s.worn b (s.worn b + 1) }.clear b n) (D + 1) := fun n => ⟨base.fails, base.dead, base.did, base.worn, base.cuts, base.fine.clear b n, base.small, base.sz⟩
  unfold Nd.erased
  split
  · split
    · exact ⟨base.fails, base.dead, base.did, base.worn, base.cuts, (base.fine.clear b _).lay (by simp), base.small, base.sz⟩
    · exact clr _
  · exact clr _
theorem wrote_off {b p : Nat} {t : Bytes} : (s.wrote a b p t).off = (s.off || s.cutNow.isSome) := rfl
theorem erased_off {b : Nat} : (s.erased a b).off = (s.off || s.cutNow.isSome) := by
  unfold Nd.erased
  split
  · rename_i x hx
    split <;> simp [Nd.lay, Nd.clear, Nd.acted, hx]
  · rename_i hx
    simp [Nd.clear, Nd.acted, hx]
theorem used_fit {b p : Nat} (h : ∀ q, p ≤ q → q < a.P → s.pages b q = []) : s.used a b p = false := used_false h

/-- over, and what it leaves. -/
def Ck.other (k : Ck) : Nat := 1 - k.turn
def Ck.over (a : NdA) (s : Nd) (k : Ck) (m : Int) : Int × Nd × Ck :=
  if s.cutNow.isSome then (51, s.erased a k.other, k)
  else if (s.erased a k.other).cutNow.isSome then (51, (s.erased a k.other).wrote a k.other 0 (frm a m (k.w k.other + 1)), { k with w := upd k.w k.other (k.w k.other + 1) })
  else (0, (s.erased a k.other).wrote a k.other 0 (frm a m (k.w k.other + 1)), { k with w := upd k.w k.other (k.w k.other + 1), turn := k.other, next := 1, n := m })

theorem cells_w {t : Nat} (ht : t < 2) (v : Int) : (k.cells a).set (6 + t) (.int .i64 v) = ({ k with w := upd k.w t v } : Ck).cells a := by
  match t, ht with
  | 0, _ => rfl
  | 1, _ => rfl

theorem ck_over (h : NdAt H a s) (hk : CkAt H c a k) (f : Fit a s D) (hD : D + 1 < 1000000) (ho : s.off = false) {m : Int} (hm : 0 ≤ m ∧ m ≤ 1073741824) (hw : 0 ≤ k.w k.other ∧ k.w k.other + 1 < 4294967296) :
    ∃ H', counter_Counter_over (some (c, 0)) m H = some (((k.over a s m).1, ()), H') ∧ NdAt H' a (k.over a s m).2.1 ∧ CkAt H' c a (k.over a s m).2.2 ∧ Keep (fun x => a.fp x ∨ x = c) H H' := by
  have hsz := f.sz
  have hdd := f.did
  have ht := hk.turn
  have hot : k.other < 2 := by unfold Ck.other; omega
  have eo : IntKind.wrap .i64 (1 - (k.turn : Int)) = (k.other : Int) := by unfold Ck.other; rw [wrap_i64 (by omega) (by omega)]; omega
  have hwo := f.worn k.other
  obtain ⟨H1, p1, p2, p3⟩ := nand_erase h (by omega) f.cuts (b := k.other) ho (by omega) (by omega) (by omega)
  rw [fit_erase_eq f] at p1 p2
  have hk1 := hk.keep p3 (not_own_fp hk)
  unfold counter_Counter_over Ck.over
  simp only [bind_some, Nat.zero_add, hk.rturn, hk.rp, eo, at2 hot, hk.rb hot, p1]
  cases hc : s.cutNow with
  | some x =>
    simp only [Option.isSome_some, if_true]
    exact ⟨H1, rfl, p2, hk1, p3.mono fun _ => .inl⟩
  | none =>
    have f1 := fit_erased f (by omega) (b := k.other)
    have o1 : (s.erased a k.other).off = false := by rw [erased_off, ho, hc]; rfl
    simp only [Option.isSome_none, Bool.false_eq_true, if_false, decide_true, Bool.not_true, cond_f, hk1.rw' hot]
    have ew : IntKind.wrap .i64 (k.w k.other + 1) = k.w k.other + 1 := wrap_i64 (by omega) (by omega)
    simp only [bind_some, ew]
    obtain ⟨H2, w1, w2, w3⟩ := hk1.wr { k with w := upd k.w k.other (k.w k.other + 1) } (j := 6 + k.other) (v := .int .i64 (k.w k.other + 1)) (by omega) (cells_w hot _) ht
    have n2 := p2.keep w3 (fun j hj e => hk.not (e ▸ hj))
    have hu : (s.erased a k.other).used a k.other 0 = false := used_false fun q _ hq => by
      unfold Nd.erased
      rw [hc]
      simp [Nd.clear, hq]
    have hww : ({ k with w := upd k.w k.other (k.w k.other + 1) } : Ck).w k.other = k.w k.other + 1 := by simp [upd]
    obtain ⟨H3, q1, q2, q3, q4⟩ := ck_write n2 w2 f1 o1 (t := k.other) (p := 0) hot (by omega) hm (by rw [hww]; omega) hu
    rw [hww, fit_program_eq f1] at q1 q2
    have k3 : Keep (fun x => a.fp x ∨ x = c) H H3 := ((p3.mono fun _ => .inl).trans (w3.mono fun _ => .inr)).trans (q4.mono fun _ => .inl)
    have q1' : counter_Counter_write (some (c, 0)) (k.other : Int) 0 m H2 = some (((if (s.erased a k.other).cutNow.isSome = true then 51 else 0, (s.erased a k.other).wrote a k.other 0 (frm a m (k.w k.other + 1))).1, ()), H3) := q1
    simp only [w1, bind_some, q1']
    cases hc1 : (s.erased a k.other).cutNow with
    | some x =>
      simp only [Option.isSome_some, if_true]
      exact ⟨H3, rfl, q2, q3, k3⟩
    | none =>
      simp only [Option.isSome_none, Bool.false_eq_true, if_false, decide_true, Bool.not_true, cond_f]
      obtain ⟨H4, x1, x2, x3⟩ := q3.wr { k with w := upd k.w k.other (k.w k.other + 1), turn := k.other } (j := 3) (v := .int .i64 (k.other : Int)) (by decide) rfl hot
      obtain ⟨H5, y1, y2, y3⟩ := x2.wr { k with w := upd k.w k.other (k.w k.other + 1), turn := k.other, next := 1 } (j := 4) (v := .int .i64 1) (by decide) rfl hot
      obtain ⟨H6, z1, z2, z3⟩ := y2.wr { k with w := upd k.w k.other (k.w k.other + 1), turn := k.other, next := 1, n := m } (j := 5) (v := .int .i64 m) (by decide) rfl hot
      have kk : Keep (fun x => x = c) H3 H6 := (x3.trans y3).trans z3
      simp only [x1, bind_some, y1, z1]
      exact ⟨H6, rfl, q2.keep kk (fun j hj e => hk.not (e ▸ hj)), z2, k3.trans (kk.mono fun _ => .inr)⟩

/-- raise -/
def Ck.raise (a : NdA) (s : Nd) (k : Ck) (m : Int) : Int × Nd × Ck :=
  if k.next < a.P ∧ 0 < k.n then
    if s.cutNow.isSome then (51, s.wrote a k.turn k.next (frm a m (k.w k.turn)), { k with next := k.next + 1 })
    else (0, s.wrote a k.turn k.next (frm a m (k.w k.turn)), { k with next := k.next + 1, n := m })
  else k.over a s m

theorem ck_raise (h : NdAt H a s) (hk : CkAt H c a k) (f : Fit a s D) (hD : D + 1 < 1000000) (ho : s.off = false) {m : Int} (hm : 0 ≤ m ∧ m ≤ 1073741824) (hw : ∀ t, 0 ≤ k.w t ∧ k.w t + 1 < 4294967296) (hfree : ∀ q, k.next ≤ q → q < a.P → s.pages k.turn q = []) (hnx : k.next ≤ 1000) :
    ∃ H', counter_Counter_raise (some (c, 0)) m H = some (((k.raise a s m).1, ()), H') ∧ NdAt H' a (k.raise a s m).2.1 ∧ CkAt H' c a (k.raise a s m).2.2 ∧ Keep (fun x => a.fp x ∨ x = c) H H' := by
  have hsz := f.sz
  obtain ⟨H1, g1, g2, g3⟩ := nand_geometry h
  have hk1 := hk.keep g3 id
  have k1 : Keep (fun x => a.fp x ∨ x = c) H H1 := g3.mono fun _ => False.elim
  have ht := hk.turn
  unfold counter_Counter_raise Ck.raise
  simp only [bind_some, Nat.zero_add, hk.rnext, hk.rp, g1]
  have over : ∃ H', counter_Counter_over (some (c, 0)) m H1 = some (((k.over a s m).1, ()), H') ∧ NdAt H' a (k.over a s m).2.1 ∧ CkAt H' c a (k.over a s m).2.2 ∧ Keep (fun x => a.fp x ∨ x = c) H1 H' := ck_over g2 hk1 f hD ho hm (hw _)
  by_cases hn : k.next < a.P
  · simp only [decide_eq_true (show (k.next : Int) < (a.P : Int) by omega), cond_t, hk1.rn, hk1.rnext, bind_some, if_true]
    by_cases h0 : 0 < k.n
    · obtain ⟨H2, w1, w2, w3⟩ := hk1.wr { k with next := k.next + 1 } (j := 4) (v := .int .i64 ((k.next + 1 : Nat) : Int)) (by decide) rfl ht
      have ew : IntKind.wrap .i64 ((k.next : Int) + 1) = ((k.next + 1 : Nat) : Int) := wrap_succ (by omega)
      have n2 := g2.keep w3 (fun j hj e => hk.not (e ▸ hj))
      obtain ⟨H3, q1, q2, q3, q4⟩ := ck_write n2 w2 f ho (t := k.turn) (p := k.next) ht hn hm (by have := hw k.turn; show 0 ≤ k.w k.turn ∧ k.w k.turn < _; omega) (used_false hfree)
      rw [fit_program_eq f] at q1 q2
      have k3 : Keep (fun x => a.fp x ∨ x = c) H H3 := (k1.trans (w3.mono fun _ => .inr)).trans (q4.mono fun _ => .inl)
      simp only [decide_eq_true h0, cond_t, ew, w1, bind_some, w2.rturn, q1, if_pos (show k.next < a.P ∧ 0 < k.n from ⟨hn, h0⟩)]
      cases hc : s.cutNow with
      | some x =>
        simp only [Option.isSome_some, if_true]
        exact ⟨H3, rfl, q2, q3, k3⟩
      | none =>
        obtain ⟨H4, x1, x2, x3⟩ := q3.wr { k with next := k.next + 1, n := m } (j := 5) (v := .int .i64 m) (by decide) rfl ht
        simp only [Option.isSome_none, Bool.false_eq_true, if_false, decide_true, cond_t, x1, bind_some, sum1]
        exact ⟨H4, rfl, q2.keep x3 (fun j hj e => hk.not (e ▸ hj)), x2, k3.trans (x3.mono fun _ => .inr)⟩
    · obtain ⟨H2, q1, q2, q3, q4⟩ := over
      simp only [decide_eq_false h0, cond_f, bind_some, sum0, q1, if_neg (show ¬ (k.next < a.P ∧ 0 < k.n) from fun x => h0 x.2)]
      exact ⟨H2, rfl, q2, q3, k1.trans q4⟩
  · obtain ⟨H2, q1, q2, q3, q4⟩ := over
    simp only [decide_eq_false (show ¬ (k.next : Int) < (a.P : Int) by omega), cond_f, hk1.rnext, bind_some, if_true, sum0, q1, if_neg (show ¬ (k.next < a.P ∧ 0 < k.n) from fun x => hn x.1)]
    exact ⟨H2, rfl, q2, q3, k1.trans q4⟩

/-! Raise, as a whole. -/
theorem raise_over {m : Int} (hm : 1073741824 < m) (p : Ptr) : counter_Counter_Raise p m H = some ((1, ()), H) := by
  unfold counter_Counter_Raise
  cases p with
  | none => rfl
  | some x => simp only [Option.isNone_some, cond_f, decide_eq_true hm, bind_some, cond_t]
theorem raise_dead (h : NdAt H a s) (hk : CkAt H c a k) {m : Int} (hm : m ≤ 1073741824) (hd : k.dead = true ∨ s.off = true) : ∃ H', counter_Counter_Raise (some (c, 0)) m H = some ((51, ()), H') ∧ NdAt H' a s ∧ CkAt H' c a { k with dead := true } ∧ Keep (fun x => x = c) H H' := by
  obtain ⟨H1, w1, w2, w3⟩ := hk.wr { k with dead := true } (j := 8) (v := .bool true) (by decide) rfl hk.turn
  refine ⟨H1, ?_, h.keep w3 (fun j hj e => hk.not (e ▸ hj)), w2, w3⟩
  unfold counter_Counter_Raise
  simp only [Option.isNone_some, cond_f, decide_eq_false (show ¬ 1073741824 < m by omega), bind_some, Nat.zero_add, hk.rdead]
  cases hdk : k.dead with
  | true => simp only [cond_t, bind_some, w1]
  | false =>
    have ho : s.off = true := hd.resolve_left (by rw [hdk]; simp)
    simp only [cond_f, hk.rp, nand_off h, bind_some, ho, cond_t, w1]
theorem raise_old (h : NdAt H a s) (hk : CkAt H c a k) {m : Int} (hm : m ≤ 1073741824) (hd : k.dead = false) (ho : s.off = false) (hn : m ≤ k.n) : counter_Counter_Raise (some (c, 0)) m H = some ((210, ()), H) := by
  unfold counter_Counter_Raise
  simp only [Option.isNone_some, cond_f, decide_eq_false (show ¬ 1073741824 < m by omega), bind_some, Nat.zero_add, hk.rdead, hd, hk.rp, nand_off h, ho, hk.rn, decide_eq_true hn, cond_t]
theorem raise_new (h : NdAt H a s) (hk : CkAt H c a k) (f : Fit a s D) (hD : D + 1 < 1000000) (ho : s.off = false) (hd : k.dead = false) {m : Int} (hm : 0 ≤ m ∧ m ≤ 1073741824) (hn : k.n < m) (hw : ∀ t, 0 ≤ k.w t ∧ k.w t + 1 < 4294967296) (hfree : ∀ q, k.next ≤ q → q < a.P → s.pages k.turn q = []) (hnx : k.next ≤ 1000) :
    ∃ H', counter_Counter_Raise (some (c, 0)) m H = some (((k.raise a s m).1, ()), H') ∧ NdAt H' a (k.raise a s m).2.1 ∧ CkAt H' c a { (k.raise a s m).2.2 with dead := decide ((k.raise a s m).1 = 51) } ∧ Keep (fun x => a.fp x ∨ x = c) H H' := by
  obtain ⟨H1, q1, q2, q3, q4⟩ := ck_raise h hk f hD ho hm hw hfree hnx
  obtain ⟨H2, w1, w2, w3⟩ := q3.wr { (k.raise a s m).2.2 with dead := decide ((k.raise a s m).1 = 51) } (j := 8) (v := .bool (decide ((k.raise a s m).1 = 51))) (by decide) rfl q3.turn
  refine ⟨H2, ?_, q2.keep w3 (fun j hj e => hk.not (e ▸ hj)), w2, q4.trans (w3.mono fun _ => .inr)⟩
  unfold counter_Counter_Raise
  simp only [Option.isNone_some, cond_f, decide_eq_false (show ¬ 1073741824 < m by omega), bind_some, Nat.zero_add, hk.rdead, hd, hk.rp, nand_off h, ho, hk.rn, decide_eq_false (show ¬ m ≤ k.n by omega), q1, w1]
theorem step_eq (hk : CkAt H c a k) (hn : 0 ≤ k.n ∧ k.n ≤ 1073741824) : counter_Counter_Step (some (c, 0)) H = (counter_Counter_Raise (some (c, 0)) (k.n + 1) H).bind fun r3 => some ((r3.1.1, ()), r3.2) := by
  unfold counter_Counter_Step
  have ew : IntKind.wrap .i64 (k.n + 1) = k.n + 1 := wrap_i64 (by omega) (by omega)
  simp only [Option.isNone_some, cond_f, bind_some, Nat.zero_add, hk.rn, ew]
end
end Ev
