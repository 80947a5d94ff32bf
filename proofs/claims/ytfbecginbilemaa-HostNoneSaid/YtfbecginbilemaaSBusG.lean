/- The bus: what a chip tells of itself; bytes of addresses. -/
import Derived.Test.YtfbecginbilemaaSBusF
namespace Ev
open Go (IntKind)

def parB (B P S : Nat) : Bytes := [84, 66, 1] ++ leB 4 B ++ leB 4 P ++ leB 4 S ++ leB 2 32
def parC (B P S : Nat) : Bytes := parB B P S ++ [0, 0, 0]
def par1 (B P S : Nat) : Bytes := parC B P S ++ leB 4 (crcMore 0 (parC B P S))
def par3 (B P S : Nat) : Bytes := par1 B P S ++ par1 B P S ++ par1 B P S
theorem parB_length (B P S : Nat) : (parB B P S).length = 17 := by simp [parB, leB_length]
theorem parC_length (B P S : Nat) : (parC B P S).length = 20 := by simp [parC, parB_length]
theorem par1_length (B P S : Nat) : (par1 B P S).length = 24 := by simp [par1, parC_length, leB_length]
theorem par3_length (B P S : Nat) : (par3 B P S).length = 72 := by simp [par3, par1_length]
theorem param_eq {B P S : Nat} (hB : B ≤ 1000) (hP : P ≤ 1000) (hS : S ≤ 1000) : bus_Param ((B : Int), (P : Int), (S : Int), ()) = some (par3 B P S, ()) := by
  have r0 : ∀ (l : Heap) , rdI .i64 (l ++ [Blk.cells [.int .i64 (B : Int), .int .i64 (P : Int), .int .i64 (S : Int)] .exact]) l.length 0 = some (B : Int) := fun l => rdI_of app_last rfl
  have r1 : ∀ (l : Heap) , rdI .i64 (l ++ [Blk.cells [.int .i64 (B : Int), .int .i64 (P : Int), .int .i64 (S : Int)] .exact]) l.length 1 = some (P : Int) := fun l => rdI_of app_last rfl
  have r2 : ∀ (l : Heap) , rdI .i64 (l ++ [Blk.cells [.int .i64 (B : Int), .int .i64 (P : Int), .int .i64 (S : Int)] .exact]) l.length 2 = some (S : Int) := fun l => rdI_of app_last rfl
  have wu : ∀ n : Nat, n < 4294967296 → IntKind.wrap .u64 (n : Int) = (n : Int) := fun n h => by rw [wrap_u64]; omega
  have fx : ∀ n : Nat, n < 4294967296 → code_Fixed (IntKind.wrap .u64 (n : Int)) 4 = some (leB 4 n, ()) := fun n h => by rw [wu n h]; exact code_Fixed_eq n 4 (by omega) (by decide)
  have f2 : code_Fixed 32 2 = some (leB 2 32, ()) := code_Fixed_eq 32 2 (by decide) (by decide)
  have e17 : IntKind.wrap .i64 (20 - (((([84, 66, 1] ++ leB 4 B ++ leB 4 P ++ leB 4 S ++ leB 2 32 : Bytes).length : Nat)) : Int)) = ((3 : Nat) : Int) := by
    have := parB_length B P S
    unfold parB at this
    rw [this]; decide
  have rp := rep_of (s := [0]) (n := 3) (by decide) (by decide)
  have e3 : ((List.replicate 3 ([0] : Bytes)).flatten) = [0, 0, 0] := rfl
  have hcr : crc_Sum (parC B P S) = some (((crcMore 0 (parC B P S) : Nat) : Int), ()) := crc_Sum_eq _ (by rw [parC_length]; decide)
  have hlt := crcMore_lt (c := 0) (s := parC B P S) (by decide)
  have rp3 := rep_of (s := par1 B P S) (n := 3) (by rw [par1_length]; decide) (by decide)
  have e33 : ((List.replicate 3 (par1 B P S)).flatten) = par3 B P S := by simp [par3, List.replicate]
  have c1 := cat_of (a := [84, 66, 1]) (b := leB 4 B) (by simp [leB_length])
  have c2 := cat_of (a := [84, 66, 1] ++ leB 4 B) (b := leB 4 P) (by simp [leB_length])
  have c3 := cat_of (a := [84, 66, 1] ++ leB 4 B ++ leB 4 P) (b := leB 4 S) (by simp [leB_length])
  have c4 := cat_of (a := [84, 66, 1] ++ leB 4 B ++ leB 4 P ++ leB 4 S) (b := leB 2 32) (by simp [leB_length])
  have c5 := cat_of (a := [84, 66, 1] ++ leB 4 B ++ leB 4 P ++ leB 4 S ++ leB 2 32) (b := [0, 0, 0]) (by simp [leB_length])
  have c6 : catS (parC B P S) (leB 4 (crcMore 0 (parC B P S))) = some (par1 B P S) := cat_of (by rw [parC_length, leB_length]; decide)
  have ec : ([84, 66, 1] ++ leB 4 B ++ leB 4 P ++ leB 4 S ++ leB 2 32 ++ [0, 0, 0] : Bytes) = parC B P S := rfl
  unfold bus_Param bus_Param.on
  simp only [r0, r1, r2, bind_some, fx B (by omega), fx P (by omega), fx S (by omega), f2, c1, c2, c3, c4, e17, rp, e3, c5, ec, hcr, fx _ hlt, c6]
  have rp3' : strings_Repeat (par1 B P S) 3 = some (par3 B P S, ()) := by rw [← e33]; exact rp3
  rw [rp3', bind_some]

def Bs.marked (k : Bs) (r : Bool × Int × Unit) : Bs := { (({ k with fail := !decide (r.2.1 = 0) } : Bs).tell (cond r.1 [0] [255])) with busy := 3 }
def Bs.came (k : Bs) (x : UInt8) : Bs := { k with addr := k.addr ++ [x] }
def Bs.full (k : Bs) (x : UInt8) : Bs := { k with addr := k.addr ++ [x], st := 3 }
def Bs.mk0 (k : Bs) : Bs := { k with st := 0, busy := 7 }
/-- A byte of an address. -/
def Bs.address (a : NdA) (s : Nd) (k : Bs) (x : UInt8) : Nd × Bs :=
  cond (!decide (k.busy = 0) || !decide ((k.st : Int) = 1)) (s, k.violate)
    (cond (decide (((k.came x).addr.length : Int) < k.want)) (s, k.came x)
      (cond (decide (k.cmd = 128)) (s, { k.full x with st := 2 })
        (cond (decide (k.cmd = 144)) (s, (k.full x).tell [84, 66, 1])
          (cond (decide (k.cmd = 236)) (s, { (k.full x).tell (par3 a.B a.P a.S) with busy := 3 })
            (cond (decide (k.cmd = 160)) ((s.markT a ((k.full x).blk a)).2, { (k.full x).mk0 with fail := !decide ((s.markT a ((k.full x).blk a)).1 = 0) })
              (cond (decide (k.cmd = 165)) (s, (k.full x).marked (s.markedT a ((k.full x).blk a))) (s, k.full x)))))))

section
variable {H : Heap} {L : Nat → Prop} {b : Nat} {a : NdA} {s : Nd} {k : Bs} {sa si : Sl} {T : Int}

theorem bus_marked (h : Bx H L b a s k sa si) (w : Wf a s T) (ha : 3 ≤ k.addr.length) (ha2 : k.addr.length ≤ 5) :
    ∃ H', bus_Bus_marked (some (b, 0)) H = some ((), H') ∧ Bx H' L b a s (k.marked (s.markedT a (k.blk a))) sa si ∧ Keep (fun x => ¬ L x) H H' := by
  have hsz := w.sz
  have sm := h.sm
  have hr := bus_row h ha (by omega)
  have hlt := row_lt k ha
  obtain ⟨Hg, g1, g2, g3⟩ := nand_geometry h.nd
  have hg := h.keep g3 fun _ _ => id
  have k0 : Keep (fun x => ¬ L x) H Hg := g3.mono fun _ hf => hf.elim
  have hP : decide ((a.P : Int) = 0) = false := decide_eq_false (by omega)
  have hm := nand_markedT hg.nd (k.blk a)
  generalize s.markedT a (k.blk a) = r at hm ⊢
  obtain ⟨H1, x1, x2, x3⟩ := hg.wr { k with fail := !decide (r.2.1 = 0) } (j := 9) (v := .bool (!decide (r.2.1 = 0))) (by decide) rfl rfl rfl sm
  obtain ⟨H2, y1, y2, y3⟩ := bus_tell x2 (cond r.1 [0] [255])
  obtain ⟨H3, z1, z2, z3⟩ := y2.wr (k.marked r) (j := 8) (v := .int .i64 3) (by decide) rfl rfl rfl (by show 0 ≤ k.wrong ∧ k.wrong < 1000000 ∧ (0 : Nat) < 1000000 ∧ (3 : Nat) < 1000000; omega)
  refine ⟨H3, ?_, z2, ((k0.trans (hg.lowb x3)).trans y3).trans (y2.lowb z3)⟩
  have ec : (cond r.1 (some (([0], ()), H1)) (some (([255], ()), H1)) : Option ((Bytes × Unit) × Heap)) = some ((cond r.1 [0] [255], ()), H1) := by cases r.1 <;> rfl
  unfold bus_Bus_marked
  simp only [bind_some, Nat.zero_add, h.rp, hr, if_true, g1, hP, cond_f, hg.rp, div_row k a hlt, hm, x1, ec, y1, z1]

theorem bus_Address (h : Bx H L b a s k sa si) (w : Wf a s T) (g : Good k T) (hT : T < 999999) (x : UInt8) :
    ∃ H' sa' si', bus_Bus_Address (some (b, 0)) ((x.toNat : Nat) : Int) H = some ((), H') ∧ Bx H' L b a (k.address a s x).1 (k.address a s x).2 sa' si' ∧ Keep (fun x => ¬ L x) H H' := by
  have hsz := w.sz
  have sm := h.sm
  have gw := g.wr
  have gal := g.al
  unfold bus_Bus_Address Bs.address
  simp only [Option.isNone_some, cond_f, bus_ready h, bind_some, Nat.zero_add, h.rst]
  cases e1 : decide (k.busy = 0) with
  | false =>
    obtain ⟨H1, a1, a2, a3⟩ := bus_violate h (by omega)
    refine ⟨H1, _, _, ?_, a2, a3⟩
    simp only [Bool.not_false, cond_t, bind_some, a1]
  | true =>
    cases e2 : decide ((k.st : Int) = 1) with
    | false =>
      obtain ⟨H1, a1, a2, a3⟩ := bus_violate h (by omega)
      refine ⟨H1, _, _, ?_, a2, a3⟩
      simp only [Bool.not_true, Bool.not_false, cond_f, cond_t, bind_some, a1]
    | true =>
      obtain ⟨gs1, gs2⟩ := g.s1 (by have := of_decide_eq_true e2; omega)
      obtain ⟨sa', H1, H2, a1, a2, a3, a4⟩ := h.appA x (by omega)
      have hr : slRow (H ++ [.cells [.int .u8 ((x.toNat : Nat) : Int)] .exact]) 1 ⟨some (H.length, 0), 1, 1⟩ = some [.int .u8 ((x.toNat : Nat) : Int)] := row_last rfl
      have ral : (sa'.len : Int) = ((k.came x).addr.length : Int) := by have : sa'.len = (k.addr ++ [x]).length := a3.alen; rw [this]; rfl
      have ra : rdSl 1 H2 b 4 = some sa' := a3.raddr
      have rw' : rdI .i64 H2 b 3 = some k.want := a3.rwant
      simp only [Bool.not_true, cond_f, bind_some, h.raddr, hr, a1, a2, ra, rw', ral, Bool.or_false]
      cases e3 : decide (((k.came x).addr.length : Int) < k.want) with
      | true =>
        refine ⟨H2, _, _, ?_, a3, a4⟩
        simp only [cond_t]
      | false =>
        have hl1 : (k.came x).addr.length = k.addr.length + 1 := by show (k.addr ++ [x]).length = _; simp
        have hl : ((k.full x).addr.length : Int) = wantsN k.cmd := by
          have := of_decide_eq_false e3
          show (((k.addr ++ [x]).length : Nat) : Int) = _
          rw [List.length_append, List.length_singleton]
          omega
        have hwl := wants_le k.cmd
        obtain ⟨H3, b1, b2, b3⟩ := a3.wr (k.full x) (j := 1) (v := .int .i64 3) (by decide) rfl rfl rfl sm
        have kk := a4.trans (a3.lowb b3)
        have rc : rdI .u8 H3 b 2 = some k.cmd := b2.rcmd
        simp only [cond_f, b1, bind_some, rc]
        cases e4 : decide (k.cmd = 128) with
        | true =>
          obtain ⟨H4, c1, c2, c3⟩ := b2.wr { k.full x with st := 2 } (j := 1) (v := .int .i64 2) (by decide) rfl rfl rfl sm
          refine ⟨H4, _, _, ?_, c2, kk.trans (b2.lowb c3)⟩
          simp only [cond_t, c1, bind_some]
        | false =>
          simp only [cond_f]
          cases e5 : decide (k.cmd = 144) with
          | true =>
            obtain ⟨H4, c1, c2, c3⟩ := bus_tell b2 [84, 66, 1]
            refine ⟨H4, _, _, ?_, c2, kk.trans c3⟩
            simp only [cond_t, c1, bind_some]
          | false =>
            simp only [cond_f]
            cases e6 : decide (k.cmd = 236) with
            | true =>
              obtain ⟨Hg, g1, g2, g3⟩ := nand_geometry b2.nd
              have hg := b2.keep g3 fun _ _ => id
              obtain ⟨H4, c1, c2, c3⟩ := bus_tell hg (par3 a.B a.P a.S)
              obtain ⟨H5, d1, d2, d3⟩ := c2.wr { (k.full x).tell (par3 a.B a.P a.S) with busy := 3 } (j := 8) (v := .int .i64 3) (by decide) rfl rfl rfl (by show 0 ≤ k.wrong ∧ k.wrong < 1000000 ∧ (0 : Nat) < 1000000 ∧ (3 : Nat) < 1000000; omega)
              refine ⟨H5, _, _, ?_, d2, ((kk.trans (g3.mono fun _ hf => hf.elim)).trans c3).trans (c2.lowb d3)⟩
              simp only [cond_t, b2.rp, bind_some, g1, param_eq hsz.2.1 hsz.2.2.2.1 hsz.2.2.2.2, c1, d1]
            | false =>
              simp only [cond_f]
              cases e7 : decide (k.cmd = 160) with
              | true =>
                have hc : k.cmd = 160 := of_decide_eq_true e7
                have h3 : (k.full x).addr.length = 3 := by rw [hc] at hl; have e : wantsN 160 = 3 := rfl; omega
                obtain ⟨H4, c1, c2, c3⟩ := b2.wr { k.full x with st := 0 } (j := 1) (v := .int .i64 0) (by decide) rfl rfl rfl sm
                obtain ⟨H5, d1, d2, d3⟩ := c2.wr (k.full x).mk0 (j := 8) (v := .int .i64 7) (by decide) rfl rfl rfl (by show 0 ≤ k.wrong ∧ k.wrong < 1000000 ∧ k.at' < 1000000 ∧ (7 : Nat) < 1000000; omega)
                have hrow0 := bus_row d2 (by show 3 ≤ (k.full x).addr.length; omega) (by show (k.full x).addr.length < 1000000; omega)
                have hrow : bus_Bus_row (some (b, 0)) H5 = some ((((k.full x).row : Int), ()), H5) := hrow0
                have hlt := row_lt (k.full x) (by omega)
                obtain ⟨Hg, g1, g2, g3⟩ := nand_geometry d2.nd
                have hg := d2.keep g3 fun _ _ => id
                obtain ⟨H6, p1, p2, p3⟩ := nand_markT hg.nd w ((k.full x).blk a)
                generalize s.markT a ((k.full x).blk a) = pr at p1 p2 ⊢
                have hm := hg.chip p2 p3
                obtain ⟨H7, q1, q2, q3⟩ := hm.wr { (k.full x).mk0 with fail := !decide (pr.1 = 0) } (j := 9) (v := .bool (!decide (pr.1 = 0))) (by decide) rfl rfl rfl (by show 0 ≤ k.wrong ∧ k.wrong < 1000000 ∧ k.at' < 1000000 ∧ (7 : Nat) < 1000000; omega)
                refine ⟨H7, _, _, ?_, q2, ((((kk.trans (b2.lowb c3)).trans (c2.lowb d3)).trans (g3.mono fun _ hf => hf.elim)).trans (hg.lowc p3)).trans (hm.lowb q3)⟩
                have hP : decide ((a.P : Int) = 0) = false := decide_eq_false (by omega)
                simp only [cond_t, c1, d1, bind_some, d2.rp, hrow, if_true, g1, hP, cond_f, hg.rp, div_row (k.full x) a hlt, p1, q1]
              | false =>
                simp only [cond_f]
                cases e8 : decide (k.cmd = 165) with
                | true =>
                  have hc : k.cmd = 165 := of_decide_eq_true e8
                  have h3 : (k.full x).addr.length = 3 := by rw [hc] at hl; have e : wantsN 165 = 3 := rfl; omega
                  obtain ⟨H4, c1, c2, c3⟩ := bus_marked b2 w (by omega) (by omega)
                  refine ⟨H4, _, _, ?_, c2, kk.trans c3⟩
                  simp only [cond_t, c1, bind_some]
                | false =>
                  refine ⟨H3, _, _, ?_, b2, kk⟩
                  simp only [cond_f]
end
end Ev
