/- The bus: each thing that comes. -/
import Derived.Test.YtfbecginbilemaaSBusC
namespace Ev
open Go (IntKind)

def starts (c : Int) : Bool := decide (c = 0) || decide (c = 96) || decide (c = 128) || decide (c = 144) || decide (c = 160) || decide (c = 165) || decide (c = 236)
def ends (c : Int) : Bool := decide (c = 48) || decide (c = 16) || decide (c = 208)
theorem startsC (x1 : Int) (H : Heap) : ((cond (decide (x1 = 0)) (some (((decide (x1 = 0)), ()), H)) (cond (decide (x1 = 96)) (some (((decide (x1 = 96)), ()), H)) (cond (decide (x1 = 128)) (some (((decide (x1 = 128)), ()), H)) (cond (decide (x1 = 144)) (some (((decide (x1 = 144)), ()), H)) (cond (decide (x1 = 160)) (some (((decide (x1 = 160)), ()), H)) (cond (decide (x1 = 165)) (some (((decide (x1 = 165)), ()), H)) (some (((decide (x1 = 236)), ()), H))))))) : Option ((Bool × Unit) × Heap))) = some ((starts x1, ()), H) := by
  unfold starts
  cases decide (x1 = 0) <;> cases decide (x1 = 96) <;> cases decide (x1 = 128) <;> cases decide (x1 = 144) <;> cases decide (x1 = 160) <;> cases decide (x1 = 165) <;> rfl
theorem endsC (x1 : Int) (H : Heap) : ((cond (decide (x1 = 48)) (some (((decide (x1 = 48)), ()), H)) (cond (decide (x1 = 16)) (some (((decide (x1 = 16)), ()), H)) (some (((decide (x1 = 208)), ()), H)))) : Option ((Bool × Unit) × Heap)) = some ((ends x1, ()), H) := by
  unfold ends
  cases decide (x1 = 48) <;> cases decide (x1 = 16) <;> rfl

def Bs.begun (k : Bs) (c : Int) : Bs := { k with cmd := c, st := 1, addr := [], inn := [], out := [], at' := 0, want := wantsN c }
def Bs.beginF (a : NdA) (s : Nd) (k : Bs) (c : Int) : Nd × Bs := cond (starts c) (s, k.begun c) (cond (ends c) (k.endF a s c) (s, k.violate))
def Bs.command (a : NdA) (s : Nd) (k : Bs) (c : Int) : Nd × Bs :=
  if c = 255 then (s, k.reset) else if c = 112 then (s, { k with asked := true }) else if k.busy = 0 then ({ k with asked := false } : Bs).beginF a s c else (s, k.violate)

/-- A bus in the heap, with all that holds of it. -/
def Bg (H : Heap) (L : Nat → Prop) (b : Nat) (a : NdA) (s : Nd) (k : Bs) (T : Int) : Prop := (∃ sa si, Bx H L b a s k sa si) ∧ Wf a s T ∧ Good k T

section
variable {H : Heap} {L : Nat → Prop} {b : Nat} {a : NdA} {s : Nd} {k : Bs} {sa si : Sl} {T : Int}

theorem bus_begin (h : Bx H L b a s k sa si) (w : Wf a s T) (g : Good k T) (hT : T < 999999) (c : Int) :
    ∃ H' sa' si', bus_Bus_begin (some (b, 0)) c H = some ((), H') ∧ Bx H' L b a (k.beginF a s c).1 (k.beginF a s c).2 sa' si' ∧ Keep (fun x => ¬ L x) H H' := by
  have sm := h.sm
  have gw := g.wr
  unfold bus_Bus_begin Bs.beginF
  rw [startsC, bind_some]
  cases hs : starts c with
  | true =>
    obtain ⟨H1, a1, a2, a3⟩ := h.wr { k with cmd := c } (j := 2) (v := .int .u8 c) (by decide) rfl rfl rfl sm
    obtain ⟨H2, b1, b2, b3⟩ := a2.wr { k with cmd := c, st := 1 } (j := 1) (v := .int .i64 1) (by decide) rfl rfl rfl sm
    obtain ⟨H3, c1, c2, c3⟩ := b2.nilA
    obtain ⟨H4, d1, d2, d3⟩ := c2.nilI
    obtain ⟨H5, e1, e2, e3⟩ := d2.wr { k with cmd := c, st := 1, addr := [], inn := [], out := [] } (j := 6) (v := .str []) (by decide) rfl rfl rfl sm
    obtain ⟨H6, f1, f2, f3⟩ := e2.wr { k with cmd := c, st := 1, addr := [], inn := [], out := [], at' := 0 } (j := 7) (v := .int .i64 0) (by decide) rfl rfl rfl (by show 0 ≤ k.wrong ∧ k.wrong < 1000000 ∧ (0 : Nat) < 1000000 ∧ k.busy < 1000000; omega)
    obtain ⟨H7, g1, g2, g3⟩ := f2.wr (k.begun c) (j := 3) (v := .int .i64 (wantsN c)) (by decide) rfl rfl rfl (by show 0 ≤ k.wrong ∧ k.wrong < 1000000 ∧ (0 : Nat) < 1000000 ∧ k.busy < 1000000; omega)
    refine ⟨H7, _, _, ?_, g2, ((((((h.lowb a3).trans (a2.lowb b3)).trans c3).trans d3).trans (d2.lowb e3)).trans (e2.lowb f3)).trans (f2.lowb g3)⟩
    simp only [cond_t, bind_some, Nat.zero_add, a1, b1, c1, d1, e1, f1, wants_eq, g1]
  | false =>
    simp only [cond_f]
    rw [endsC, bind_some]
    cases he : ends c with
    | true =>
      obtain ⟨H1, a1, a2, a3⟩ := bus_end h w g hT c
      refine ⟨H1, _, _, ?_, a2, a3⟩
      simp only [cond_t, a1, bind_some]
    | false =>
      obtain ⟨H1, a1, a2, a3⟩ := bus_violate h (by omega)
      refine ⟨H1, _, _, ?_, a2, a3⟩
      simp only [cond_f, a1, bind_some]

theorem bus_Command (h : Bx H L b a s k sa si) (w : Wf a s T) (g : Good k T) (hT : T < 999999) (c : Int) :
    ∃ H' sa' si', bus_Bus_Command (some (b, 0)) c H = some ((), H') ∧ Bx H' L b a (k.command a s c).1 (k.command a s c).2 sa' si' ∧ Keep (fun x => ¬ L x) H H' := by
  have sm := h.sm
  have gw := g.wr
  unfold bus_Bus_Command Bs.command
  simp only [Option.isNone_some, cond_f]
  by_cases h1 : c = 255
  · obtain ⟨H1, a1, a2, a3⟩ := bus_reset h
    refine ⟨H1, _, _, ?_, by rw [if_pos h1]; exact a2, a3⟩
    simp only [decide_eq_true h1, cond_t, a1, bind_some]
  · simp only [decide_eq_false h1, cond_f]
    rw [if_neg h1]
    by_cases h2 : c = 112
    · obtain ⟨H1, a1, a2, a3⟩ := h.wr { k with asked := true } (j := 10) (v := .bool true) (by decide) rfl rfl rfl sm
      refine ⟨H1, _, _, ?_, by rw [if_pos h2]; exact a2, h.lowb a3⟩
      simp only [decide_eq_true h2, cond_t, bind_some, Nat.zero_add, a1]
    · rw [if_neg h2]
      simp only [decide_eq_false h2, cond_f, bus_ready h, bind_some]
      by_cases h3 : k.busy = 0
      · rw [if_pos h3]
        obtain ⟨H1, a1, a2, a3⟩ := h.wr { k with asked := false } (j := 10) (v := .bool false) (by decide) rfl rfl rfl sm
        obtain ⟨H2, sa', si', b1, b2, b3⟩ := bus_begin a2 w (T := T) ⟨g.wr, g.s1, g.s2, g.s3, g.al, g.inn, g.out, g.busy⟩ hT c
        refine ⟨H2, sa', si', ?_, b2, (h.lowb a3).trans b3⟩
        simp only [decide_eq_true h3, Bool.not_true, cond_f, Nat.zero_add, a1, bind_some, b1]
      · rw [if_neg h3]
        obtain ⟨H1, a1, a2, a3⟩ := bus_violate h (by omega)
        refine ⟨H1, _, _, ?_, a2, a3⟩
        simp only [decide_eq_false h3, Bool.not_false, cond_t, a1, bind_some]

/-- A byte that is to be written. -/
def Bs.inF (a : NdA) (k : Bs) (x : UInt8) : Bs := cond (!decide (k.busy = 0) || (!decide ((k.st : Int) = 2) || decide (((a.S + 32 : Nat) : Int) ≤ (k.inn.length : Int)))) k.violate { k with inn := k.inn ++ [x] }
theorem or3 (p q : Bool) (X : Option ((Bool × Unit) × Heap)) (H : Heap) (r : Bool) (hX : X = some ((r, ()), H)) : (cond p (some ((true, ()), H)) (cond q (some ((true, ()), H)) X)) = some ((p || (q || r), ()), H) := by subst hX; cases p <;> cases q <;> rfl
theorem bus_In (h : Bx H L b a s k sa si) (w : Wf a s T) (g : Good k T) (hT : T < 999999) (x : UInt8) :
    ∃ H' sa' si', bus_Bus_In (some (b, 0)) ((x.toNat : Nat) : Int) H = some ((), H') ∧ Bx H' L b a s (k.inF a x) sa' si' ∧ Keep (fun x => ¬ L x) H H' := by
  have hsz := w.sz
  have gw := g.wr
  have hil := h.ilen
  have ew : IntKind.wrap .i64 ((a.S : Int) + 32) = ((a.S + 32 : Nat) : Int) := by rw [wrap_i64 (by omega) (by omega)]; omega
  unfold bus_Bus_In Bs.inF
  simp only [Option.isNone_some, cond_f, bus_ready h, bind_some, Nat.zero_add, h.rst, h.rinn, h.rp]
  obtain ⟨Hg, g1, g2, g3⟩ := nand_geometry h.nd
  have hg := h.keep g3 fun _ _ => id
  have k0 : Keep (fun x => ¬ L x) H Hg := g3.mono fun _ hf => hf.elim
  simp only [g1, bind_some, hg.rinn, if_true, ew, hil]
  cases e1 : decide (k.busy = 0) with
  | false =>
    obtain ⟨H1, a1, a2, a3⟩ := bus_violate h (by omega)
    refine ⟨H1, _, _, ?_, a2, a3⟩
    simp only [Bool.not_false, cond_t, bind_some, a1]
  | true =>
    cases e2 : decide ((k.st : Int) = 2) with
    | false =>
      obtain ⟨H1, a1, a2, a3⟩ := bus_violate h (by omega)
      refine ⟨H1, _, _, ?_, a2, a3⟩
      simp only [Bool.not_true, Bool.not_false, cond_f, cond_t, bind_some, a1]
    | true =>
      cases e3 : decide (((a.S + 32 : Nat) : Int) ≤ (k.inn.length : Int)) with
      | true =>
        obtain ⟨H1, a1, a2, a3⟩ := bus_violate hg (by omega)
        refine ⟨H1, _, _, ?_, a2, k0.trans a3⟩
        simp only [Bool.not_true, cond_f, cond_t, bind_some, a1]
      | false =>
        obtain ⟨si', H1, H2, a1, a2, a3, a4⟩ := hg.appI x (by have := g.inn; omega)
        refine ⟨H2, _, _, ?_, a3, k0.trans a4⟩
        have hr : slRow (Hg ++ [.cells [.int .u8 ((x.toNat : Nat) : Int)] .exact]) 1 ⟨some (Hg.length, 0), 1, 1⟩ = some [.int .u8 ((x.toNat : Nat) : Int)] := row_last rfl
        simp only [Bool.not_true, cond_f, bind_some, hg.rinn, hr, a1, a2]

/-- A poll. -/
def Bs.poll (k : Bs) : Bs := { k with busy := k.busy - 1 }
theorem pred_i64 {n : Nat} (h : 0 < n) (h2 : n < 1000000) : IntKind.wrap .i64 ((n : Int) - 1) = ((n - 1 : Nat) : Int) := by rw [wrap_i64 (by omega) (by omega)]; omega
theorem poll_zero (h : k.busy = 0) : k.poll = k := by unfold Bs.poll; rw [h]; cases k; simp only at h; subst h; rfl
theorem bus_Ready (h : Bx H L b a s k sa si) : ∃ H', bus_Bus_Ready (some (b, 0)) H = some ((decide (k.poll.busy = 0), ()), H') ∧ Bx H' L b a s k.poll sa si ∧ Keep (fun x => ¬ L x) H H' := by
  have sm := h.sm
  unfold bus_Bus_Ready
  simp only [Option.isNone_some, cond_f, bind_some, Nat.zero_add, h.rbusy]
  by_cases h0 : 0 < k.busy
  · obtain ⟨H1, a1, a2, a3⟩ := h.wr k.poll (j := 8) (v := .int .i64 ((k.busy - 1 : Nat) : Int)) (by decide) rfl rfl rfl (by show 0 ≤ k.wrong ∧ k.wrong < 1000000 ∧ k.at' < 1000000 ∧ k.busy - 1 < 1000000; omega)
    refine ⟨H1, ?_, a2, h.lowb a3⟩
    have : decide (((k.poll.busy : Nat) : Int) = 0) = decide (k.poll.busy = 0) := decide_eq_decide.2 (by omega)
    simp only [decide_eq_true (show (0 : Int) < (k.busy : Int) by omega), cond_t, pred_i64 h0 sm.2.2.2, a1, bind_some, a2.rbusy, this]
  · have hz : k.busy = 0 := by omega
    refine ⟨H, ?_, by rw [poll_zero hz]; exact h, Keep.refl _ _⟩
    rw [poll_zero hz]
    have : decide ((k.busy : Int) = 0) = decide (k.busy = 0) := decide_eq_decide.2 (by omega)
    simp only [decide_eq_false (show ¬ (0 : Int) < (k.busy : Int) by omega), cond_f, this]
def Bs.stat (k : Bs) : Int := cond k.fail (cond (decide (k.poll.busy = 0)) 193 129) (cond (decide (k.poll.busy = 0)) 192 128)
theorem bus_status (h : Bx H L b a s k sa si) : ∃ H', bus_Bus_status (some (b, 0)) H = some ((k.stat, ()), H') ∧ Bx H' L b a s k.poll sa si ∧ Keep (fun x => x = b) H H' := by
  have sm := h.sm
  have q1 : bitsI .or .u8 128 64 = 192 := by decide
  have q2 : bitsI .or .u8 192 1 = 193 := by decide
  have q3 : bitsI .or .u8 128 1 = 129 := by decide
  have fin : ∀ {G : Heap}, Bx G L b a s k.poll sa si → ((cond (decide (((k.poll.busy : Nat) : Int) = 0)) (some ((bitsI .or .u8 128 64, ()), G)) (some ((128, ()), G)) : Option ((Int × Unit) × Heap)).bind fun (p10 : (Int × Unit) × Heap) => cond k.fail (some ((bitsI .or .u8 p10.1.1 1, ()), p10.2)) (some ((p10.1.1, ()), p10.2))) = some ((k.stat, ()), G) := by
    intro G _
    have e : decide (((k.poll.busy : Nat) : Int) = 0) = decide (k.poll.busy = 0) := decide_eq_decide.2 (by omega)
    unfold Bs.stat
    rw [e]
    cases k.fail <;> cases decide (k.poll.busy = 0) <;> simp only [cond_t, cond_f, bind_some, q1, q2, q3]
  unfold bus_Bus_status
  simp only [bind_some, Nat.zero_add, h.rbusy]
  by_cases h0 : 0 < k.busy
  · obtain ⟨H1, a1, a2, a3⟩ := h.wr k.poll (j := 8) (v := .int .i64 ((k.busy - 1 : Nat) : Int)) (by decide) rfl rfl rfl (by show 0 ≤ k.wrong ∧ k.wrong < 1000000 ∧ k.at' < 1000000 ∧ k.busy - 1 < 1000000; omega)
    refine ⟨H1, ?_, a2, a3⟩
    simp only [decide_eq_true (show (0 : Int) < (k.busy : Int) by omega), cond_t, pred_i64 h0 sm.2.2.2, a1, bind_some, a2.rbusy]
    have := fin a2
    cases hd : decide (((k.poll.busy : Nat) : Int) = 0) <;> rw [hd] at this <;> simp only [cond_t, cond_f, bind_some, a2.rfail] at this ⊢ <;> exact this
  · have hz : k.busy = 0 := by omega
    have hp := poll_zero hz
    refine ⟨H, ?_, by rw [hp]; exact h, Keep.refl _ _⟩
    have := fin (G := H) (by rw [hp]; exact h)
    rw [hp] at this
    simp only [decide_eq_false (show ¬ (0 : Int) < (k.busy : Int) by omega), cond_f, bind_some, h.rbusy]
    cases hd : decide ((k.busy : Int) = 0) <;> rw [hd] at this <;> simp only [cond_t, cond_f, bind_some, h.rfail] at this ⊢ <;> exact this

/-- A byte is asked for. -/
def Bs.outF (k : Bs) : Int × Bs :=
  cond k.asked (k.stat, ({ k with asked := false } : Bs).poll) (cond (!decide (k.busy = 0) || !decide ((k.st : Int) = 4)) (255, k.violate) (if h : k.at' < k.out.length then ((((k.out[k.at']'h).toNat : Nat) : Int), { k with at' := k.at' + 1 }) else (255, k)))
theorem bus_Out (h : Bx H L b a s k sa si) (g : Good k T) (hT : T < 999999) : ∃ H', bus_Bus_Out (some (b, 0)) H = some ((k.outF.1, ()), H') ∧ Bx H' L b a s k.outF.2 sa si ∧ Keep (fun x => x = b) H H' := by
  have sm := h.sm
  have gw := g.wr
  have go := g.out
  unfold bus_Bus_Out Bs.outF
  simp only [Option.isNone_some, cond_f, bind_some, Nat.zero_add, h.rasked]
  cases ha : k.asked with
  | true =>
    obtain ⟨H1, a1, a2, a3⟩ := h.wr { k with asked := false } (j := 10) (v := .bool false) (by decide) rfl rfl rfl sm
    obtain ⟨H2, b1, b2, b3⟩ := bus_status a2
    refine ⟨H2, ?_, b2, a3.trans b3⟩
    simp only [cond_t, a1, bind_some, b1]
    rfl
  | false =>
    simp only [cond_f, bus_ready h, bind_some, h.rst]
    cases e1 : decide (k.busy = 0) with
    | false =>
      obtain ⟨H1, a1, a2, a3⟩ := bus_violateB h (by omega)
      refine ⟨H1, ?_, a2, a3⟩
      simp only [Bool.not_false, cond_t, bind_some, a1, Bool.true_or]
    | true =>
      cases e2 : decide ((k.st : Int) = 4) with
      | false =>
        obtain ⟨H1, a1, a2, a3⟩ := bus_violateB h (by omega)
        refine ⟨H1, ?_, a2, a3⟩
        simp only [Bool.not_true, Bool.not_false, cond_f, cond_t, bind_some, a1, Bool.false_or]
      | true =>
        simp only [Bool.not_true, cond_f, bind_some, h.rat, h.rout, Bool.false_or]
        by_cases hl : k.at' < k.out.length
        · obtain ⟨H1, a1, a2, a3⟩ := h.wr { k with at' := k.at' + 1 } (j := 7) (v := .int .i64 ((k.at' + 1 : Nat) : Int)) (by decide) rfl rfl rfl (by show 0 ≤ k.wrong ∧ k.wrong < 1000000 ∧ k.at' + 1 < 1000000 ∧ k.busy < 1000000; omega)
          refine ⟨H1, ?_, by rw [dif_pos hl, ← ha]; exact a2, a3⟩
          have ew : IntKind.wrap .i64 ((k.at' : Int) + 1) = ((k.at' + 1 : Nat) : Int) := wrap_succ (by omega)
          have ew2 : IntKind.wrap .i64 (((k.at' + 1 : Nat) : Int) - 1) = (k.at' : Int) := by rw [wrap_i64 (by omega) (by omega)]; omega
          have ra : rdI .i64 H1 b 7 = some ((k.at' + 1 : Nat) : Int) := a2.rat
          have ro : rdS H1 b 6 = some k.out := a2.rout
          simp only [decide_eq_false (show ¬ (k.out.length : Int) ≤ (k.at' : Int) by omega), cond_f, ew, a1, bind_some, ra, ro, ew2, idx_of hl, dif_pos hl]
        · refine ⟨H, ?_, by rw [dif_neg hl]; exact h, Keep.refl _ _⟩
          simp only [decide_eq_true (show (k.out.length : Int) ≤ (k.at' : Int) by omega), cond_t, dif_neg hl]
end
end Ev
namespace Ev
open Go (IntKind)

def parB (B P S : Nat) : Bytes := [84, 66, 1] ++ leB 4 B ++ leB 4 P ++ leB 4 S ++ leB 2 32
def parC (B P S : Nat) : Bytes := parB B P S ++ [0, 0, 0]
def par1 (B P S : Nat) : Bytes := parC B P S ++ leB 4 (crcMore 0 (parC B P S))
def par3 (B P S : Nat) : Bytes := par1 B P S ++ par1 B P S ++ par1 B P S
theorem parB_length (B P S : Nat) : (parB B P S).length = 17 := by simp [parB, leB_length]
theorem parC_length (B P S : Nat) : (parC B P S).length = 20 := by simp [parC, parB_length]
theorem par1_length (B P S : Nat) : (par1 B P S).length = 24 := by simp [par1, parC_length, leB_length]
theorem par3_length (B P S : Nat) : (par3 B P S).length = 72 := by simp [par3, par1_length]
theorem param_eq {B P S : Nat} (hB : B ≤ 1000) (hP : P ≤ 1000) (hS : S ≤ 1000) : bus_Param ((B : Int), (P : Int), (S : Int), ()) = some (par3 B P S, ()) := by
  have r0 : ∀ (l : Heap) , rdI .i64 (l ++ [Blk.cells [.int .i64 (B : Int), .int .i64 (P : Int), .int .i64 (S : Int)] .exact]) l.length 0 = some (B : Int) := fun l => rdI_of app_last rfl
  have r1 : ∀ (l : Heap) , rdI .i64 (l ++ [Blk.cells [.int .i64 (B : Int), .int .i64 (P : Int), .int .i64 (S : Int)] .exact]) l.length 1 = some (P : Int) := fun l => rdI_of app_last rfl
  have r2 : ∀ (l : Heap) , rdI .i64 (l ++ [Blk.cells [.int .i64 (B : Int), .int .i64 (P : Int), .int .i64 (S : Int)] .exact]) l.length 2 = some (S : Int) := fun l => rdI_of app_last rfl
  have wu : ∀ n : Nat, n < 4294967296 → IntKind.wrap .u64 (n : Int) = (n : Int) := fun n h => by rw [wrap_u64]; omega
  have fx : ∀ n : Nat, n < 4294967296 → code_Fixed (IntKind.wrap .u64 (n : Int)) 4 = some (leB 4 n, ()) := fun n h => by rw [wu n h]; exact code_Fixed_eq n 4 (by omega) (by decide)
  have f2 : code_Fixed 32 2 = some (leB 2 32, ()) := code_Fixed_eq 32 2 (by decide) (by decide)
  have e17 : IntKind.wrap .i64 (20 - (((([84, 66, 1] ++ leB 4 B ++ leB 4 P ++ leB 4 S ++ leB 2 32 : Bytes).length : Nat)) : Int)) = ((3 : Nat) : Int) := by
    have := parB_length B P S
    unfold parB at this
    rw [this]; decide
  have rp := rep_of (s := [0]) (n := 3) (by decide) (by decide)
  have e3 : ((List.replicate 3 ([0] : Bytes)).flatten) = [0, 0, 0] := rfl
  have hcr : crc_Sum (parC B P S) = some (((crcMore 0 (parC B P S) : Nat) : Int), ()) := crc_Sum_eq _ (by rw [parC_length]; decide)
  have hlt := crcMore_lt (c := 0) (s := parC B P S) (by decide)
  have rp3 := rep_of (s := par1 B P S) (n := 3) (by rw [par1_length]; decide) (by decide)
  have e33 : ((List.replicate 3 (par1 B P S)).flatten) = par3 B P S := by simp [par3, List.replicate]
  have c1 := cat_of (a := [84, 66, 1]) (b := leB 4 B) (by simp [leB_length])
  have c2 := cat_of (a := [84, 66, 1] ++ leB 4 B) (b := leB 4 P) (by simp [leB_length])
  have c3 := cat_of (a := [84, 66, 1] ++ leB 4 B ++ leB 4 P) (b := leB 4 S) (by simp [leB_length])
  have c4 := cat_of (a := [84, 66, 1] ++ leB 4 B ++ leB 4 P ++ leB 4 S) (b := leB 2 32) (by simp [leB_length])
  have c5 := cat_of (a := [84, 66, 1] ++ leB 4 B ++ leB 4 P ++ leB 4 S ++ leB 2 32) (b := [0, 0, 0]) (by simp [leB_length])
  have c6 : catS (parC B P S) (leB 4 (crcMore 0 (parC B P S))) = some (par1 B P S) := cat_of (by rw [parC_length, leB_length]; decide)
  have ec : ([84, 66, 1] ++ leB 4 B ++ leB 4 P ++ leB 4 S ++ leB 2 32 ++ [0, 0, 0] : Bytes) = parC B P S := rfl
  unfold bus_Param bus_Param.on
  simp only [r0, r1, r2, bind_some, fx B (by omega), fx P (by omega), fx S (by omega), f2, c1, c2, c3, c4, e17, rp, e3, c5, ec, hcr, fx _ hlt, c6]
  have rp3' : strings_Repeat (par1 B P S) 3 = some (par3 B P S, ()) := by rw [← e33]; exact rp3
  rw [rp3', bind_some]

def Bs.marked (k : Bs) (r : Bool × Int × Unit) : Bs := { (({ k with fail := !decide (r.2.1 = 0) } : Bs).tell (cond r.1 [0] [255])) with busy := 3 }
def Bs.came (k : Bs) (x : UInt8) : Bs := { k with addr := k.addr ++ [x] }
def Bs.full (k : Bs) (x : UInt8) : Bs := { k with addr := k.addr ++ [x], st := 3 }
def Bs.mk0 (k : Bs) : Bs := { k with st := 0, busy := 7 }
/-- A byte of an address. -/
def Bs.address (a : NdA) (s : Nd) (k : Bs) (x : UInt8) : Nd × Bs :=
  cond (!decide (k.busy = 0) || !decide ((k.st : Int) = 1)) (s, k.violate)
    (cond (decide (((k.came x).addr.length : Int) < k.want)) (s, k.came x)
      (cond (decide (k.cmd = 128)) (s, { k.full x with st := 2 })
        (cond (decide (k.cmd = 144)) (s, (k.full x).tell [84, 66, 1])
          (cond (decide (k.cmd = 236)) (s, { (k.full x).tell (par3 a.B a.P a.S) with busy := 3 })
            (cond (decide (k.cmd = 160)) ((s.markT a ((k.full x).blk a)).2, { (k.full x).mk0 with fail := !decide ((s.markT a ((k.full x).blk a)).1 = 0) })
              (cond (decide (k.cmd = 165)) (s, (k.full x).marked (s.markedT a ((k.full x).blk a))) (s, k.full x)))))))

section
variable {H : Heap} {L : Nat → Prop} {b : Nat} {a : NdA} {s : Nd} {k : Bs} {sa si : Sl} {T : Int}

theorem bus_marked (h : Bx H L b a s k sa si) (w : Wf a s T) (ha : 3 ≤ k.addr.length) (ha2 : k.addr.length ≤ 5) :
    ∃ H', bus_Bus_marked (some (b, 0)) H = some ((), H') ∧ Bx H' L b a s (k.marked (s.markedT a (k.blk a))) sa si ∧ Keep (fun x => ¬ L x) H H' := by
  have hsz := w.sz
  have sm := h.sm
  have hr := bus_row h ha (by omega)
  have hlt := row_lt k ha
  obtain ⟨Hg, g1, g2, g3⟩ := nand_geometry h.nd
  have hg := h.keep g3 fun _ _ => id
  have k0 : Keep (fun x => ¬ L x) H Hg := g3.mono fun _ hf => hf.elim
  have hP : decide ((a.P : Int) = 0) = false := decide_eq_false (by omega)
  have hm := nand_markedT hg.nd (k.blk a)
  generalize s.markedT a (k.blk a) = r at hm ⊢
  obtain ⟨H1, x1, x2, x3⟩ := hg.wr { k with fail := !decide (r.2.1 = 0) } (j := 9) (v := .bool (!decide (r.2.1 = 0))) (by decide) rfl rfl rfl sm
  obtain ⟨H2, y1, y2, y3⟩ := bus_tell x2 (cond r.1 [0] [255])
  obtain ⟨H3, z1, z2, z3⟩ := y2.wr (k.marked r) (j := 8) (v := .int .i64 3) (by decide) rfl rfl rfl (by show 0 ≤ k.wrong ∧ k.wrong < 1000000 ∧ (0 : Nat) < 1000000 ∧ (3 : Nat) < 1000000; omega)
  refine ⟨H3, ?_, z2, ((k0.trans (hg.lowb x3)).trans y3).trans (y2.lowb z3)⟩
  have ec : (cond r.1 (some (([0], ()), H1)) (some (([255], ()), H1)) : Option ((Bytes × Unit) × Heap)) = some ((cond r.1 [0] [255], ()), H1) := by cases r.1 <;> rfl
  unfold bus_Bus_marked
  simp only [bind_some, Nat.zero_add, h.rp, hr, if_true, g1, hP, cond_f, hg.rp, div_row k a hlt, hm, x1, ec, y1, z1]

theorem bus_Address (h : Bx H L b a s k sa si) (w : Wf a s T) (g : Good k T) (hT : T < 999999) (x : UInt8) :
    ∃ H' sa' si', bus_Bus_Address (some (b, 0)) ((x.toNat : Nat) : Int) H = some ((), H') ∧ Bx H' L b a (k.address a s x).1 (k.address a s x).2 sa' si' ∧ Keep (fun x => ¬ L x) H H' := by
  have hsz := w.sz
  have sm := h.sm
  have gw := g.wr
  have gal := g.al
  unfold bus_Bus_Address Bs.address
  simp only [Option.isNone_some, cond_f, bus_ready h, bind_some, Nat.zero_add, h.rst]
  cases e1 : decide (k.busy = 0) with
  | false =>
    obtain ⟨H1, a1, a2, a3⟩ := bus_violate h (by omega)
    refine ⟨H1, _, _, ?_, a2, a3⟩
    simp only [Bool.not_false, cond_t, bind_some, a1]
  | true =>
    cases e2 : decide ((k.st : Int) = 1) with
    | false =>
      obtain ⟨H1, a1, a2, a3⟩ := bus_violate h (by omega)
      refine ⟨H1, _, _, ?_, a2, a3⟩
      simp only [Bool.not_true, Bool.not_false, cond_f, cond_t, bind_some, a1]
    | true =>
      obtain ⟨gs1, gs2⟩ := g.s1 (by have := of_decide_eq_true e2; omega)
      obtain ⟨sa', H1, H2, a1, a2, a3, a4⟩ := h.appA x (by omega)
      have hr : slRow (H ++ [.cells [.int .u8 ((x.toNat : Nat) : Int)] .exact]) 1 ⟨some (H.length, 0), 1, 1⟩ = some [.int .u8 ((x.toNat : Nat) : Int)] := row_last rfl
      have ral : (sa'.len : Int) = ((k.came x).addr.length : Int) := by have : sa'.len = (k.addr ++ [x]).length := a3.alen; rw [this]; rfl
      have ra : rdSl 1 H2 b 4 = some sa' := a3.raddr
      have rw' : rdI .i64 H2 b 3 = some k.want := a3.rwant
      simp only [Bool.not_true, cond_f, bind_some, h.raddr, hr, a1, a2, ra, rw', ral, Bool.or_false]
      cases e3 : decide (((k.came x).addr.length : Int) < k.want) with
      | true =>
        refine ⟨H2, _, _, ?_, a3, a4⟩
        simp only [cond_t]
      | false =>
        have hl1 : (k.came x).addr.length = k.addr.length + 1 := by show (k.addr ++ [x]).length = _; simp
        have hl : ((k.full x).addr.length : Int) = wantsN k.cmd := by
          have := of_decide_eq_false e3
          show (((k.addr ++ [x]).length : Nat) : Int) = _
          rw [List.length_append, List.length_singleton]
          omega
        have hwl := wants_le k.cmd
        obtain ⟨H3, b1, b2, b3⟩ := a3.wr (k.full x) (j := 1) (v := .int .i64 3) (by decide) rfl rfl rfl sm
        have kk := a4.trans (a3.lowb b3)
        have rc : rdI .u8 H3 b 2 = some k.cmd := b2.rcmd
        simp only [cond_f, b1, bind_some, rc]
        cases e4 : decide (k.cmd = 128) with
        | true =>
          obtain ⟨H4, c1, c2, c3⟩ := b2.wr { k.full x with st := 2 } (j := 1) (v := .int .i64 2) (by decide) rfl rfl rfl sm
          refine ⟨H4, _, _, ?_, c2, kk.trans (b2.lowb c3)⟩
          simp only [cond_t, c1, bind_some]
        | false =>
          simp only [cond_f]
          cases e5 : decide (k.cmd = 144) with
          | true =>
            obtain ⟨H4, c1, c2, c3⟩ := bus_tell b2 [84, 66, 1]
            refine ⟨H4, _, _, ?_, c2, kk.trans c3⟩
            simp only [cond_t, c1, bind_some]
          | false =>
            simp only [cond_f]
            cases e6 : decide (k.cmd = 236) with
            | true =>
              obtain ⟨Hg, g1, g2, g3⟩ := nand_geometry b2.nd
              have hg := b2.keep g3 fun _ _ => id
              obtain ⟨H4, c1, c2, c3⟩ := bus_tell hg (par3 a.B a.P a.S)
              obtain ⟨H5, d1, d2, d3⟩ := c2.wr { (k.full x).tell (par3 a.B a.P a.S) with busy := 3 } (j := 8) (v := .int .i64 3) (by decide) rfl rfl rfl (by show 0 ≤ k.wrong ∧ k.wrong < 1000000 ∧ (0 : Nat) < 1000000 ∧ (3 : Nat) < 1000000; omega)
              refine ⟨H5, _, _, ?_, d2, ((kk.trans (g3.mono fun _ hf => hf.elim)).trans c3).trans (c2.lowb d3)⟩
              simp only [cond_t, b2.rp, bind_some, g1, param_eq hsz.2.1 hsz.2.2.2.1 hsz.2.2.2.2, c1, d1]
            | false =>
              simp only [cond_f]
              cases e7 : decide (k.cmd = 160) with
              | true =>
                have hc : k.cmd = 160 := of_decide_eq_true e7
                have h3 : (k.full x).addr.length = 3 := by rw [hc] at hl; have e : wantsN 160 = 3 := rfl; omega
                obtain ⟨H4, c1, c2, c3⟩ := b2.wr { k.full x with st := 0 } (j := 1) (v := .int .i64 0) (by decide) rfl rfl rfl sm
                obtain ⟨H5, d1, d2, d3⟩ := c2.wr (k.full x).mk0 (j := 8) (v := .int .i64 7) (by decide) rfl rfl rfl (by show 0 ≤ k.wrong ∧ k.wrong < 1000000 ∧ k.at' < 1000000 ∧ (7 : Nat) < 1000000; omega)
                have hrow0 := bus_row d2 (by show 3 ≤ (k.full x).addr.length; omega) (by show (k.full x).addr.length < 1000000; omega)
                have hrow : bus_Bus_row (some (b, 0)) H5 = some ((((k.full x).row : Int), ()), H5) := hrow0
                have hlt := row_lt (k.full x) (by omega)
                obtain ⟨Hg, g1, g2, g3⟩ := nand_geometry d2.nd
                have hg := d2.keep g3 fun _ _ => id
                obtain ⟨H6, p1, p2, p3⟩ := nand_markT hg.nd w ((k.full x).blk a)
                generalize s.markT a ((k.full x).blk a) = pr at p1 p2 ⊢
                have hm := hg.chip p2 p3
                obtain ⟨H7, q1, q2, q3⟩ := hm.wr { (k.full x).mk0 with fail := !decide (pr.1 = 0) } (j := 9) (v := .bool (!decide (pr.1 = 0))) (by decide) rfl rfl rfl (by show 0 ≤ k.wrong ∧ k.wrong < 1000000 ∧ k.at' < 1000000 ∧ (7 : Nat) < 1000000; omega)
                refine ⟨H7, _, _, ?_, q2, ((((kk.trans (b2.lowb c3)).trans (c2.lowb d3)).trans (g3.mono fun _ hf => hf.elim)).trans (hg.lowc p3)).trans (hm.lowb q3)⟩
                have hP : decide ((a.P : Int) = 0) = false := decide_eq_false (by omega)
                simp only [cond_t, c1, d1, bind_some, d2.rp, hrow, if_true, g1, hP, cond_f, hg.rp, div_row (k.full x) a hlt, p1, q1]
              | false =>
                simp only [cond_f]
                cases e8 : decide (k.cmd = 165) with
                | true =>
                  have hc : k.cmd = 165 := of_decide_eq_true e8
                  have h3 : (k.full x).addr.length = 3 := by rw [hc] at hl; have e : wantsN 165 = 3 := rfl; omega
                  obtain ⟨H4, c1, c2, c3⟩ := bus_marked b2 w (by omega) (by omega)
                  refine ⟨H4, _, _, ?_, c2, kk.trans c3⟩
                  simp only [cond_t, c1, bind_some]
                | false =>
                  refine ⟨H3, _, _, ?_, b2, kk⟩
                  simp only [cond_f]
end
end Ev
namespace Ev
open Go (IntKind)

section
variable {H : Heap} {L : Nat → Prop} {b : Nat} {a : NdA} {s : Nd} {k : Bs} {T : Int}

theorem Good.le (g : Good k T) {T' : Int} (h : T ≤ T') : Good k T' := ⟨by have := g.wr; omega, g.s1, g.s2, g.s3, g.al, g.inn, g.out, g.busy⟩
theorem Good.violate (g : Good k T) : Good k.violate (T + 1) := ⟨by have := g.wr; show k.wrong + 1 ≤ T + 1; omega, g.s1, g.s2, g.s3, g.al, g.inn, g.out, g.busy⟩
theorem Good.reset (g : Good k T) : Good k.reset T := ⟨g.wr, fun h => (by cases h), fun h => (by cases h), fun h => (by cases h), Nat.zero_le _, Nat.zero_le _, ⟨Nat.zero_le _, Nat.le_refl _⟩, by show 3 ≤ 15; decide⟩
theorem Good.asked (g : Good k T) (x : Bool) : Good { k with asked := x } T := ⟨g.wr, g.s1, g.s2, g.s3, g.al, g.inn, g.out, g.busy⟩
theorem Good.poll (g : Good k T) : Good k.poll T := ⟨g.wr, g.s1, g.s2, g.s3, g.al, g.inn, g.out, by have := g.busy; show k.busy - 1 ≤ 15; omega⟩
theorem Good.begun (g : Good k T) (c : Int) : Good (k.begun c) T := ⟨g.wr, fun _ => ⟨by show (0 : Int) < wantsN c; have := wants_le c; omega, rfl⟩, fun h => (by cases h), fun h => (by cases h), Nat.zero_le _, Nat.zero_le _, ⟨Nat.zero_le _, Nat.le_refl _⟩, g.busy⟩
theorem Good.idle (g : Good k T) (n : Nat) (hn : n ≤ 15) (f : Bool) : Good { k with fail := f, st := 0, busy := n } T := ⟨g.wr, fun h => (by cases h), fun h => (by cases h), fun h => (by cases h), g.al, g.inn, g.out, hn⟩
theorem Good.said (g : Good k T) (f : Bool) (t : Bytes) (n : Nat) (hn : n ≤ 15) (ht : t.length ≤ 2000) : Good { (({ k with fail := f } : Bs).tell t) with busy := n } T := ⟨g.wr, fun h => (by cases h), fun h => (by cases h), fun h => (by cases h), g.al, g.inn, ⟨ht, Nat.zero_le _⟩, hn⟩

theorem Good.readF (g : Good k T) (w : Wf a s T) : Good (k.readF a s) T := by
  refine g.said _ _ 3 (by decide) ?_
  have := readT_length w (k.blk a) (k.pg a)
  unfold Bs.got
  rw [List.length_drop, List.length_append]
  omega
/-- What a command does to the count of actions. -/
def isEnd (c : Int) : Int := if c = 16 ∨ c = 208 then 1 else 0
theorem isEnd0 (c : Int) : 0 ≤ isEnd c ∧ isEnd c ≤ 1 := by unfold isEnd; split <;> omega
theorem endF_good (w : Wf a s T) (g : Good k T) (hT : T < 999999) (c : Int) : Wf a (k.endF a s c).1 (T + 1) ∧ Good (k.endF a s c).2 (T + 1) ∧ (k.endF a s c).1.did ≤ s.did + isEnd c ∧ s.did ≤ (k.endF a s c).1.did := by
  have h01 := isEnd0 c
  have hsm := w.small
  unfold Bs.endF
  cases k.go with
  | false => exact ⟨w.le (by omega) (by omega), g.violate, by simp only [Bool.not_false, cond_t]; omega, Int.le_refl _⟩
  | true =>
    simp only [Bool.not_true, cond_f]
    cases k.is c 48 0 with
    | true => exact ⟨w.le (by omega) (by omega), (g.readF w).le (by omega), by simp only [cond_t]; omega, Int.le_refl _⟩
    | false =>
      simp only [cond_f]
      cases h2 : k.is c 16 128 with
      | true =>
        have hc : c = 16 := of_decide_eq_true (Bool.and_eq_true _ _ ▸ (h2 : (decide (c = 16) && decide (k.cmd = 128)) = true)).1
        have hi : isEnd c = 1 := by rw [hc]; rfl
        obtain ⟨w1, w2, w3⟩ := w.progT (by omega) (k.blk a) (k.pg a) ((k.over a).take a.S) ((k.over a).drop a.S)
        exact ⟨w1, (g.idle 7 (by decide) _).le (by omega), by rw [hi]; exact w2, w3⟩
      | false =>
        simp only [cond_f]
        cases h3 : k.is c 208 96 with
        | true =>
          have hc : c = 208 := of_decide_eq_true (Bool.and_eq_true _ _ ▸ (h3 : (decide (c = 208) && decide (k.cmd = 96)) = true)).1
          have hi : isEnd c = 1 := by rw [hc]; rfl
          obtain ⟨w1, w2, w3⟩ := w.eraseT (by omega) (k.blk a)
          exact ⟨w1, (g.idle 15 (by decide) _).le (by omega), by rw [hi]; exact w2, w3⟩
        | false => exact ⟨w.le (by omega) (by omega), g.violate, by simp only [cond_f]; omega, Int.le_refl _⟩
theorem command_good (w : Wf a s T) (g : Good k T) (hT : T < 999999) (c : Int) : Wf a (k.command a s c).1 (T + 1) ∧ Good (k.command a s c).2 (T + 1) ∧ (k.command a s c).1.did ≤ s.did + isEnd c ∧ s.did ≤ (k.command a s c).1.did := by
  have h01 := isEnd0 c
  have hsm := w.small
  unfold Bs.command
  split
  · exact ⟨w.le (by omega) (by omega), g.reset.le (by omega), by simp only; omega, Int.le_refl _⟩
  · split
    · exact ⟨w.le (by omega) (by omega), (g.asked true).le (by omega), by simp only; omega, Int.le_refl _⟩
    · split
      · unfold Bs.beginF
        cases starts c with
        | true => exact ⟨w.le (by omega) (by omega), ((g.asked false).begun c).le (by omega), by simp only [cond_t]; omega, Int.le_refl _⟩
        | false =>
          cases ends c with
          | true => exact endF_good w (g.asked false) hT c
          | false => exact ⟨w.le (by omega) (by omega), (g.asked false).violate, by simp only [cond_f]; omega, Int.le_refl _⟩
      · exact ⟨w.le (by omega) (by omega), g.violate, by simp only; omega, Int.le_refl _⟩
theorem inF_good (w : Wf a s T) (g : Good k T) (x : UInt8) : Good (k.inF a x) (T + 1) := by
  have hsz := w.sz
  unfold Bs.inF
  cases h : (!decide (k.busy = 0) || (!decide ((k.st : Int) = 2) || decide (((a.S + 32 : Nat) : Int) ≤ (k.inn.length : Int)))) with
  | true => exact g.violate
  | false =>
    have h1 := (Bool.or_eq_false_iff.1 (Bool.or_eq_false_iff.1 h).2).2
    have h2 := of_decide_eq_false h1
    exact ⟨by have := g.wr; show k.wrong ≤ T + 1; omega, g.s1, g.s2, g.s3, g.al, by show (k.inn ++ [x]).length ≤ 2000; rw [List.length_append, List.length_singleton]; omega, g.out, g.busy⟩
theorem outF_good (g : Good k T) : Good k.outF.2 (T + 1) := by
  unfold Bs.outF
  cases k.asked with
  | true => exact ((g.asked false).poll).le (by omega)
  | false =>
    simp only [cond_f]
    cases (!decide (k.busy = 0) || !decide ((k.st : Int) = 4)) with
    | true => exact g.violate
    | false =>
      simp only [cond_f]
      split
      · exact ⟨by have := g.wr; show k.wrong ≤ T + 1; omega, g.s1, g.s2, g.s3, g.al, g.inn, by have := g.out; refine ⟨this.1, ?_⟩; show k.at' + 1 ≤ k.out.length; omega, g.busy⟩
      · exact g.le (by omega)
theorem address_good (w : Wf a s T) (g : Good k T) (hT : T < 999999) (x : UInt8) : Wf a (k.address a s x).1 (T + 1) ∧ Good (k.address a s x).2 (T + 1) ∧ (k.address a s x).1.did ≤ s.did + 1 ∧ s.did ≤ (k.address a s x).1.did := by
  have hsm := w.small
  have same : Wf a s (T + 1) ∧ s.did ≤ s.did + 1 ∧ s.did ≤ s.did := ⟨w.le (by omega) (by omega), by omega, Int.le_refl _⟩
  unfold Bs.address
  cases h : (!decide (k.busy = 0) || !decide ((k.st : Int) = 1)) with
  | true => exact ⟨same.1, g.violate, same.2⟩
  | false =>
    simp only [cond_f]
    have h1 := (Bool.or_eq_false_iff.1 h).2
    have h2 : k.st = 1 := by
      have : decide ((k.st : Int) = 1) = true := by simpa using h1
      have := of_decide_eq_true this
      omega
    obtain ⟨s1, s2⟩ := g.s1 h2
    have hwl := wants_le k.cmd
    have hl : (k.addr ++ [x]).length = k.addr.length + 1 := by simp
    have gw := g.wr
    cases hc : decide (((k.came x).addr.length : Int) < k.want) with
    | true =>
      have hc' : (((k.addr ++ [x]).length : Nat) : Int) < k.want := of_decide_eq_true hc
      refine ⟨same.1, ⟨by show k.wrong ≤ T + 1; omega, fun _ => ⟨by show (((k.addr ++ [x]).length : Nat) : Int) < wantsN k.cmd; rw [← s2]; exact hc', s2⟩, fun e => ?_, fun e => ?_, by show (k.addr ++ [x]).length ≤ 5; omega, g.inn, g.out, g.busy⟩, same.2⟩
      · have e' : k.st = 2 := e
        omega
      · have e' : k.st = 3 := e
        omega
    | false =>
      have hc' : ¬ (((k.addr ++ [x]).length : Nat) : Int) < k.want := of_decide_eq_false hc
      simp only [cond_f]
      have hfl : (k.addr ++ [x]).length ≤ 5 := by omega
      have gf : Good (k.full x) T := ⟨g.wr, fun e => (by cases e), fun e => (by cases e), fun _ => by show (((k.addr ++ [x]).length : Nat) : Int) = wantsN k.cmd; omega, hfl, g.inn, g.out, g.busy⟩
      cases h3 : decide (k.cmd = 128) with
      | true =>
        have h3' := of_decide_eq_true h3
        exact ⟨same.1, ⟨by show k.wrong ≤ T + 1; omega, fun e => (by cases e), fun _ => by show (k.addr ++ [x]).length = 5; have e : wantsN 128 = 5 := rfl; rw [h3', e] at s1 s2; omega, fun e => (by cases e), hfl, g.inn, g.out, g.busy⟩, same.2⟩
      | false =>
        simp only [cond_f]
        cases decide (k.cmd = 144) with
        | true => exact ⟨same.1, ⟨by show k.wrong ≤ T + 1; omega, fun e => (by cases e), fun e => (by cases e), fun e => (by cases e), hfl, g.inn, ⟨by show 3 ≤ 2000; decide, Nat.zero_le _⟩, g.busy⟩, same.2⟩
        | false =>
          simp only [cond_f]
          cases decide (k.cmd = 236) with
          | true => exact ⟨same.1, ⟨by show k.wrong ≤ T + 1; omega, fun e => (by cases e), fun e => (by cases e), fun e => (by cases e), hfl, g.inn, ⟨by show (par3 a.B a.P a.S).length ≤ 2000; rw [par3_length]; decide, Nat.zero_le _⟩, by show 3 ≤ 15; decide⟩, same.2⟩
          | false =>
            simp only [cond_f]
            cases decide (k.cmd = 160) with
            | true =>
              obtain ⟨w1, w2, w3⟩ := w.markT (by omega) ((k.full x).blk a)
              exact ⟨w1, (gf.idle 7 (by decide) _).le (by omega), w2, w3⟩
            | false =>
              simp only [cond_f]
              cases decide (k.cmd = 165) with
              | true => exact ⟨same.1, (gf.said _ _ 3 (by decide) (by cases (s.markedT a ((k.full x).blk a)).1 <;> decide)).le (by omega), same.2⟩
              | false => exact ⟨same.1, gf.le (by omega), same.2⟩

theorem Bg.command (h : Bg H L b a s k T) (hT : T < 999999) (c : Int) : ∃ H', bus_Bus_Command (some (b, 0)) c H = some ((), H') ∧ Bg H' L b a (k.command a s c).1 (k.command a s c).2 (T + 1) ∧ Keep (fun x => ¬ L x) H H' := by
  obtain ⟨⟨sa, si, hx⟩, w, g⟩ := h
  obtain ⟨H', sa', si', e1, e2, e3⟩ := bus_Command hx w g hT c
  obtain ⟨c1, c2, _⟩ := command_good w g hT c
  exact ⟨H', e1, ⟨⟨sa', si', e2⟩, c1, c2⟩, e3⟩
theorem Bg.address (h : Bg H L b a s k T) (hT : T < 999999) (x : UInt8) : ∃ H', bus_Bus_Address (some (b, 0)) ((x.toNat : Nat) : Int) H = some ((), H') ∧ Bg H' L b a (k.address a s x).1 (k.address a s x).2 (T + 1) ∧ Keep (fun x => ¬ L x) H H' := by
  obtain ⟨⟨sa, si, hx⟩, w, g⟩ := h
  obtain ⟨H', sa', si', e1, e2, e3⟩ := bus_Address hx w g hT x
  obtain ⟨c1, c2, _⟩ := address_good w g hT x
  exact ⟨H', e1, ⟨⟨sa', si', e2⟩, c1, c2⟩, e3⟩
theorem Bg.inn (h : Bg H L b a s k T) (hT : T < 999999) (x : UInt8) : ∃ H', bus_Bus_In (some (b, 0)) ((x.toNat : Nat) : Int) H = some ((), H') ∧ Bg H' L b a s (k.inF a x) (T + 1) ∧ Keep (fun x => ¬ L x) H H' := by
  obtain ⟨⟨sa, si, hx⟩, w, g⟩ := h
  have hsm := w.small
  obtain ⟨H', sa', si', e1, e2, e3⟩ := bus_In hx w g hT x
  exact ⟨H', e1, ⟨⟨sa', si', e2⟩, w.le (by omega) (by omega), inF_good w g x⟩, e3⟩
theorem Bg.out (h : Bg H L b a s k T) (hT : T < 999999) : ∃ H', bus_Bus_Out (some (b, 0)) H = some ((k.outF.1, ()), H') ∧ Bg H' L b a s k.outF.2 (T + 1) ∧ Keep (fun x => ¬ L x) H H' := by
  obtain ⟨⟨sa, si, hx⟩, w, g⟩ := h
  have hsm := w.small
  obtain ⟨H', e1, e2, e3⟩ := bus_Out hx g hT
  exact ⟨H', e1, ⟨⟨sa, si, e2⟩, w.le (by omega) (by omega), outF_good g⟩, hx.lowb e3⟩
theorem Bg.ready (h : Bg H L b a s k T) : ∃ H', bus_Bus_Ready (some (b, 0)) H = some ((decide (k.poll.busy = 0), ()), H') ∧ Bg H' L b a s k.poll T ∧ Keep (fun x => ¬ L x) H H' := by
  obtain ⟨⟨sa, si, hx⟩, w, g⟩ := h
  obtain ⟨H', e1, e2, e3⟩ := bus_Ready hx
  exact ⟨H', e1, ⟨⟨sa, si, e2⟩, w, g.poll⟩, e3⟩
theorem Bg.le (h : Bg H L b a s k T) {T' : Int} (h1 : T ≤ T') (h2 : T' ≤ 1000000) : Bg H L b a s k T' := ⟨h.1, h.2.1.le h1 h2, h.2.2.le h1⟩
theorem Bg.keep (h : Bg H L b a s k T) {F : Nat → Prop} {H' : Heap} (kp : Keep F H H') (hF : ∀ x, x < H.length → F x → False) : Bg H' L b a s k T := by
  obtain ⟨⟨sa, si, hx⟩, w, g⟩ := h
  exact ⟨⟨sa, si, hx.keep kp hF⟩, w, g⟩
theorem Bg.geometry (h : Bg H L b a s k T) : ∃ H', nand_Chip_Geometry (some (a.c, 0)) H = some ((((a.B : Int), (a.P : Int), (a.S : Int), ()), ()), H') ∧ Bg H' L b a s k T ∧ Keep (fun x => ¬ L x) H H' := by
  obtain ⟨⟨sa, si, hx⟩, _, _⟩ := id h
  obtain ⟨H', g1, _, g3⟩ := nand_geometry hx.nd
  exact ⟨H', g1, h.keep g3 fun _ _ => id, g3.mono fun _ hf => hf.elim⟩
theorem Bg.did (h : Bg H L b a s k T) : nand_Chip_Did (some (a.c, 0)) H = some ((s.did, ()), H) := by
  obtain ⟨⟨sa, si, hx⟩, _, _⟩ := h
  unfold nand_Chip_Did
  simp only [Option.isNone_some, cond_f, bind_some, Nat.zero_add, hx.nd.rdid]
end
end Ev
