/- Cells: how they stand in the heap; a page's number, its mask; bits that turn. -/
import Derived.Test.YtpebaginkkbnpaaGreatGCell
import Derived.Test.YtpebaginkkbnpaaGreatSNandT
import Derived.Test.YtpebaginkkbnpaaGreatSWeaveG
import Derived.Test.YtpebaginkkbnpaaGreatMp
namespace Ev
open Go (IntKind)

abbrev Noi := Int × Int × Int × Int × Int × Unit
def noiT : List CT := [.int .i64, .int .i64, .int .i64, .int .i64, .int .u8]
def noiC (l : List Noi) : List C := rowsOf noiT l

structure CeA where
  c : Nat
  a : NdA
  m : Nat
  ns : Sl
  S : Nat
  W : Nat
  D : Nat
structure Ce where
  s : Nd
  X : Int → Option Bytes
  reads : Int
  hw : Int
  wk : Bool
  seed : Int
  N : List Noi
def CeA.R (q : CeA) : Nat := q.S + 32 + q.W * 8
def CeA.cells (q : CeA) (t : Ce) : List C := [.ptr (some (q.a.c, 0)), .int .i64 q.a.B, .int .i64 q.a.P, .int .i64 q.S, .int .i64 q.W, .int .i64 q.D, .int .i64 8, .int .i64 q.R, .sl 5 q.ns, .mp (some q.m), .int .i64 t.reads, .int .i64 t.seed, .int .i64 t.hw, .bool t.wk]
def CeA.fp (q : CeA) (k : Nat) : Prop := k = q.c ∨ k = q.m ∨ q.a.fp k
def CeA.own (q : CeA) (k : Nat) : Prop := k = q.c ∨ k = q.m ∨ q.a.own k ∨ ∃ o, q.ns.p = some (k, o)

structure CeAt (H : Heap) (q : CeA) (t : Ce) : Prop where
  cell : H[q.c]? = some (.cells (q.cells t) .exact)
  nd : NdAt H q.a t.s
  mp : MpAt H q.m fun k => (t.X k).map fun s => W.one (.str s)
  ns : Row H 5 q.ns (noiC t.N)
  co : ¬ q.a.own q.c
  mo : ¬ q.a.own q.m
  cm : q.c ≠ q.m
  nf : ∀ k o, q.ns.p = some (k, o) → ¬ q.fp k
  len : ∀ k s, t.X k = some s → s.length = q.R
  sh : ShOK (q.S + 32) 8 q.W q.D
  aS : q.a.S + 32 = q.R
  sz : q.a.B ≤ 1000 ∧ q.a.P ≤ 1000 ∧ t.N.length ≤ 1000000
  sd : 0 ≤ t.seed ∧ t.seed ≤ 1000000
  nb : ∀ n ∈ t.N, 0 ≤ n.2.2.2.2.1 ∧ n.2.2.2.2.1 < 256

section
variable {H : Heap} {q : CeA} {t : Ce}

theorem CeAt.keep (h : CeAt H q t) {F : Nat → Prop} {H' : Heap} (k : Keep F H H') (hF : ∀ j, q.own j → ¬ F j) : CeAt H' q t :=
  { h with cell := k.get h.cell (hF _ (.inl rfl)), nd := h.nd.keep k fun j hj => hF _ (.inr (.inr (.inl hj))), mp := h.mp.keep k (hF _ (.inr (.inl rfl))), ns := h.ns.keep k fun b o hp => hF _ (.inr (.inr (.inr ⟨o, hp⟩))) }
theorem CeAt.push (h : CeAt H q t) (x : Blk) : CeAt (H ++ [x]) q t := h.keep (Keep.push (fun _ => False) H x) fun _ _ => id
theorem CeAt.own_lt (h : CeAt H q t) {k : Nat} (hk : q.own k) : k < H.length := by
  rcases hk with rfl | rfl | hk | ⟨o, ho⟩
  · exact get_lt h.cell
  · exact h.mp.lt
  · exact h.nd.own_lt hk
  · exact h.ns.lt ho
theorem CeAt.R_le (h : CeAt H q t) : 40 ≤ q.R ∧ q.R ≤ 2000 ∧ q.S ≤ 1000 := by
  have h1 := h.sh.s1
  have h2 := h.sh.r
  have h3 := h.sh.wd.1
  unfold CeA.R
  omega

/-- The chip beneath turns. -/
theorem CeAt.chip (h : CeAt H q t) {H' : Heap} {s : Nd} (hn : NdAt H' q.a s) (k : Keep q.a.fp H H') : CeAt H' q { t with s := s } :=
  { h with cell := k.get h.cell fun e => h.co (.inl e), nd := hn, mp := h.mp.keep k fun e => h.mo (.inl e), ns := h.ns.keep k fun b o hp e => h.nf b o hp (.inr (.inr e)) }
/-- Its numbers turn. -/
theorem CeAt.upd (h : CeAt H q t) (r hw : Int) (wk : Bool) : CeAt (H.set q.c (.cells (q.cells { t with reads := r, hw := hw, wk := wk }) .exact)) q { t with reads := r, hw := hw, wk := wk } ∧
    Keep q.fp H (H.set q.c (.cells (q.cells { t with reads := r, hw := hw, wk := wk }) .exact)) := by
  have k : Keep (fun j => j = q.c) H (H.set q.c (.cells (q.cells { t with reads := r, hw := hw, wk := wk }) .exact)) := Keep.set _ _ _ rfl
  refine ⟨{ h with cell := by rw [set_get (get_lt h.cell)], nd := h.nd.keep k fun j hj e => h.co (e ▸ hj), mp := h.mp.keep k fun e => h.cm e.symm, ns := h.ns.keep k fun b o hp e => h.nf b o hp (.inl e) }, k.mono fun j e => .inl e⟩
theorem CeAt.wreads (h : CeAt H q t) (r : Int) : ∃ H', wr H q.c 10 [.int .i64 r] = some H' ∧ CeAt H' q { t with reads := r } ∧ Keep q.fp H H' :=
  ⟨_, wr1_of h.cell (by decide) (by simp [CeA.cells]), (h.upd r t.hw t.wk).1, (h.upd r t.hw t.wk).2⟩
theorem CeAt.wweak (h : CeAt H q t) (b : Bool) : ∃ H', wr H q.c 13 [.bool b] = some H' ∧ CeAt H' q { t with wk := b } ∧ Keep q.fp H H' :=
  ⟨_, wr1_of h.cell (by decide) (by simp [CeA.cells]), (h.upd t.reads t.hw b).1, (h.upd t.reads t.hw b).2⟩
theorem CeAt.wlast (h : CeAt H q t) (n : Int) (b : Bool) : ∃ H', wr H q.c 12 [.int .i64 n, .bool b] = some H' ∧ CeAt H' q { t with hw := n, wk := b } ∧ Keep q.fp H H' :=
  ⟨_, wr_of h.cell (by decide) (by simp [CeA.cells]), (h.upd t.reads n b).1, (h.upd t.reads n b).2⟩

theorem CeAt.rc (h : CeAt H q t) : rdP H q.c 0 = some (some (q.a.c, 0)) := rdP_of h.cell rfl
theorem CeAt.rB (h : CeAt H q t) : rdI .i64 H q.c 1 = some (q.a.B : Int) := rdI_of h.cell rfl
theorem CeAt.rP (h : CeAt H q t) : rdI .i64 H q.c 2 = some (q.a.P : Int) := rdI_of h.cell rfl
theorem CeAt.rS (h : CeAt H q t) : rdI .i64 H q.c 3 = some (q.S : Int) := rdI_of h.cell rfl
theorem CeAt.rR (h : CeAt H q t) : rdI .i64 H q.c 7 = some (q.R : Int) := rdI_of h.cell rfl
theorem CeAt.rns (h : CeAt H q t) : rdSl 5 H q.c 8 = some q.ns := rdSl_of h.cell rfl
theorem CeAt.rm (h : CeAt H q t) : rdM H q.c 9 = some (some q.m) := by
  show (H.cell q.c 9).bind CT.mp.un = _
  rw [cell_of h.cell (c := .mp (some q.m)) rfl]; rfl
theorem CeAt.rr (h : CeAt H q t) : rdI .i64 H q.c 10 = some t.reads := rdI_of h.cell rfl
theorem CeAt.rsd (h : CeAt H q t) : rdI .i64 H q.c 11 = some t.seed := rdI_of h.cell rfl
theorem CeAt.rsh (h : CeAt H q t) : @Eq (Option (Int × Int × Int × Int × Unit)) (rd H (.agg [.int .i64, .int .i64, .int .i64, .int .i64]) q.c 4) (some (shT q.W q.D 8 q.R)) := by
  refine rd_agg_of h.cell (by simp [CeA.cells]) ?_
  simp [CeA.cells, Tup.un, CT.un]
  rfl
theorem CeAt.rlast (h : CeAt H q t) : @Eq (Option (Int × Bool × Unit)) (rd H (.agg [.int .i64, .bool]) q.c 12) (some (t.hw, t.wk, ())) := by
  refine rd_agg_of h.cell (by simp [CeA.cells]) ?_
  simp [CeA.cells, Tup.un, CT.un]
  rfl

/-- A page's number. -/
def CeA.num (q : CeA) (b p : Int) : Int := b * q.a.P + p
theorem ce_at (h : CeAt H q t) {b p : Int} (hb : 0 ≤ b ∧ b ≤ 1000) (hp : 0 ≤ p ∧ p ≤ 1000) : cell_Cells_at (some (q.c, 0)) b p H = some ((q.num b p, ()), H) := by
  have hsz := h.sz.2.1
  have h1 : b * (q.a.P : Int) ≤ 1000 * 1000 := Int.mul_le_mul hb.2 (by omega) (by omega) (by omega)
  have h2 : 0 ≤ b * (q.a.P : Int) := Int.mul_nonneg hb.1 (by omega)
  unfold cell_Cells_at CeA.num
  simp only [bind_some, Nat.zero_add, h.rP]
  generalize b * (q.a.P : Int) = z at *
  rw [wrap_i64 (n := z) (by omega) (by omega), wrap_i64 (by omega) (by omega)]
theorem ce_mask (h : CeAt H q t) {b p : Int} (hb : 0 ≤ b ∧ b ≤ 1000) (hp : 0 ≤ p ∧ p ≤ 1000) : cell_Cells_mask (some (q.c, 0)) b p H = some ((t.seed + q.num b p, ()), H) := by
  have hsz := h.sz.2.1
  have hsd := h.sd
  have h1 : b * (q.a.P : Int) ≤ 1000 * 1000 := Int.mul_le_mul hb.2 (by omega) (by omega) (by omega)
  have h2 : 0 ≤ b * (q.a.P : Int) := Int.mul_nonneg hb.1 (by omega)
  unfold cell_Cells_mask
  simp only [bind_some, Nat.zero_add, h.rsd, ce_at h hb hp, if_true]
  have : q.num b p = b * (q.a.P : Int) + p := rfl
  rw [this]
  generalize b * (q.a.P : Int) = z at *
  rw [wrap_i64 (by omega) (by omega)]
end
end Ev
