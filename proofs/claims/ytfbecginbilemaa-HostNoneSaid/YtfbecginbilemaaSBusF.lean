/- The bus: each thing that comes. -/
import Derived.Test.YtfbecginbilemaaSBusE
namespace Ev
open Go (IntKind)

def starts (c : Int) : Bool := decide (c = 0) || decide (c = 96) || decide (c = 128) || decide (c = 144) || decide (c = 160) || decide (c = 165) || decide (c = 236)
def ends (c : Int) : Bool := decide (c = 48) || decide (c = 16) || decide (c = 208)
theorem startsC (x1 : Int) (H : Heap) : ((cond (decide (x1 = 0)) (some (((decide (x1 = 0)), ()), H)) (cond (decide (x1 = 96)) (some (((decide (x1 = 96)), ()), H)) (cond (decide (x1 = 128)) (some (((decide (x1 = 128)), ()), H)) (cond (decide (x1 = 144)) (some (((decide (x1 = 144)), ()), H)) (cond (decide (x1 = 160)) (some (((decide (x1 = 160)), ()), H)) (cond (decide (x1 = 165)) (some (((decide (x1 = 165)), ()), H)) (some (((decide (x1 = 236)), ()), H))))))) : Option ((Bool × Unit) × Heap))) = some ((starts x1, ()), H) := by
  unfold starts
  cases decide (x1 = 0) <;> cases decide (x1 = 96) <;> cases decide (x1 = 128) <;> cases decide (x1 = 144) <;> cases decide (x1 = 160) <;> cases decide (x1 = 165) <;> rfl
theorem endsC (x1 : Int) (H : Heap) : ((cond (decide (x1 = 48)) (some (((decide (x1 = 48)), ()), H)) (cond (decide (x1 = 16)) (some (((decide (x1 = 16)), ()), H)) (some (((decide (x1 = 208)), ()), H)))) : Option ((Bool × Unit) × Heap)) = some ((ends x1, ()), H) := by
  unfold ends
  cases decide (x1 = 48) <;> cases decide (x1 = 16) <;> rfl

def Bs.begun (k : Bs) (c : Int) : Bs := { k with cmd := c, st := 1, addr := [], inn := [], out := [], at' := 0, want := wantsN c }
def Bs.beginF (a : NdA) (s : Nd) (k : Bs) (c : Int) : Nd × Bs := cond (starts c) (s, k.begun c) (cond (ends c) (k.endF a s c) (s, k.violate))
def Bs.command (a : NdA) (s : Nd) (k : Bs) (c : Int) : Nd × Bs :=
  if c = 255 then (s, k.reset) else if c = 112 then (s, { k with asked := true }) else if k.busy = 0 then ({ k with asked := false } : Bs).beginF a s c else (s, k.violate)

/-- A bus in the heap, with all that holds of it. -/
def Bg (H : Heap) (L : Nat → Prop) (b : Nat) (a : NdA) (s : Nd) (k : Bs) (T : Int) : Prop := (∃ sa si, Bx H L b a s k sa si) ∧ Wf a s T ∧ Good k T

section
variable {H : Heap} {L : Nat → Prop} {b : Nat} {a : NdA} {s : Nd} {k : Bs} {sa si : Sl} {T : Int}

theorem bus_begin (h : Bx H L b a s k sa si) (w : Wf a s T) (g : Good k T) (hT : T < 999999) (c : Int) :
    ∃ H' sa' si', bus_Bus_begin (some (b, 0)) c H = some ((), H') ∧ Bx H' L b a (k.beginF a s c).1 (k.beginF a s c).2 sa' si' ∧ Keep (fun x => ¬ L x) H H' := by
  have sm := h.sm
  have gw := g.wr
  unfold bus_Bus_begin Bs.beginF
  rw [startsC, bind_some]
  cases hs : starts c with
  | true =>
    obtain ⟨H1, a1, a2, a3⟩ := h.wr { k with cmd := c } (j := 2) (v := .int .u8 c) (by decide) rfl rfl rfl sm
    obtain ⟨H2, b1, b2, b3⟩ := a2.wr { k with cmd := c, st := 1 } (j := 1) (v := .int .i64 1) (by decide) rfl rfl rfl sm
    obtain ⟨H3, c1, c2, c3⟩ := b2.nilA
    obtain ⟨H4, d1, d2, d3⟩ := c2.nilI
    obtain ⟨H5, e1, e2, e3⟩ := d2.wr { k with cmd := c, st := 1, addr := [], inn := [], out := [] } (j := 6) (v := .str []) (by decide) rfl rfl rfl sm
    obtain ⟨H6, f1, f2, f3⟩ := e2.wr { k with cmd := c, st := 1, addr := [], inn := [], out := [], at' := 0 } (j := 7) (v := .int .i64 0) (by decide) rfl rfl rfl (by show 0 ≤ k.wrong ∧ k.wrong < 1000000 ∧ (0 : Nat) < 1000000 ∧ k.busy < 1000000; omega)
    obtain ⟨H7, g1, g2, g3⟩ := f2.wr (k.begun c) (j := 3) (v := .int .i64 (wantsN c)) (by decide) rfl rfl rfl (by show 0 ≤ k.wrong ∧ k.wrong < 1000000 ∧ (0 : Nat) < 1000000 ∧ k.busy < 1000000; omega)
    refine ⟨H7, _, _, ?_, g2, ((((((h.lowb a3).trans (a2.lowb b3)).trans c3).trans d3).trans (d2.lowb e3)).trans (e2.lowb f3)).trans (f2.lowb g3)⟩
    simp only [cond_t, bind_some, Nat.zero_add, a1, b1, c1, d1, e1, f1, wants_eq, g1]
  | false =>
    simp only [cond_f]
    rw [endsC, bind_some]
    cases he : ends c with
    | true =>
      obtain ⟨H1, a1, a2, a3⟩ := bus_end h w g hT c
      refine ⟨H1, _, _, ?_, a2, a3⟩
      simp only [cond_t, a1, bind_some]
    | false =>
      obtain ⟨H1, a1, a2, a3⟩ := bus_violate h (by omega)
      refine ⟨H1, _, _, ?_, a2, a3⟩
      simp only [cond_f, a1, bind_some]

theorem bus_Command (h : Bx H L b a s k sa si) (w : Wf a s T) (g : Good k T) (hT : T < 999999) (c : Int) :
    ∃ H' sa' si', bus_Bus_Command (some (b, 0)) c H = some ((), H') ∧ Bx H' L b a (k.command a s c).1 (k.command a s c).2 sa' si' ∧ Keep (fun x => ¬ L x) H H' := by
  have sm := h.sm
  have gw := g.wr
  unfold bus_Bus_Command Bs.command
  simp only [Option.isNone_some, cond_f]
  by_cases h1 : c = 255
  · obtain ⟨H1, a1, a2, a3⟩ := bus_reset h
    refine ⟨H1, _, _, ?_, by rw [if_pos h1]; exact a2, a3⟩
    simp only [decide_eq_true h1, cond_t, a1, bind_some]
  · simp only [decide_eq_false h1, cond_f]
    rw [if_neg h1]
    by_cases h2 : c = 112
    · obtain ⟨H1, a1, a2, a3⟩ := h.wr { k with asked := true } (j := 10) (v := .bool true) (by decide) rfl rfl rfl sm
      refine ⟨H1, _, _, ?_, by rw [if_pos h2]; exact a2, h.lowb a3⟩
      simp only [decide_eq_true h2, cond_t, bind_some, Nat.zero_add, a1]
    · rw [if_neg h2]
      simp only [decide_eq_false h2, cond_f, bus_ready h, bind_some]
      by_cases h3 : k.busy = 0
      · rw [if_pos h3]
        obtain ⟨H1, a1, a2, a3⟩ := h.wr { k with asked := false } (j := 10) (v := .bool false) (by decide) rfl rfl rfl sm
        obtain ⟨H2, sa', si', b1, b2, b3⟩ := bus_begin a2 w (T := T) ⟨g.wr, g.s1, g.s2, g.s3, g.al, g.inn, g.out, g.busy⟩ hT c
        refine ⟨H2, sa', si', ?_, b2, (h.lowb a3).trans b3⟩
        simp only [decide_eq_true h3, Bool.not_true, cond_f, Nat.zero_add, a1, bind_some, b1]
      · rw [if_neg h3]
        obtain ⟨H1, a1, a2, a3⟩ := bus_violate h (by omega)
        refine ⟨H1, _, _, ?_, a2, a3⟩
        simp only [decide_eq_false h3, Bool.not_false, cond_t, a1, bind_some]

/-- A byte that is to be written. -/
def Bs.inF (a : NdA) (k : Bs) (x : UInt8) : Bs := cond (!decide (k.busy = 0) || (!decide ((k.st : Int) = 2) || decide (((a.S + 32 : Nat) : Int) ≤ (k.inn.length : Int)))) k.violate { k with inn := k.inn ++ [x] }
theorem or3 (p q : Bool) (X : Option ((Bool × Unit) × Heap)) (H : Heap) (r : Bool) (hX : X = some ((r, ()), H)) : (cond p (some ((true, ()), H)) (cond q (some ((true, ()), H)) X)) = some ((p || (q || r), ()), H) := by subst hX; cases p <;> cases q <;> rfl
theorem bus_In (h : Bx H L b a s k sa si) (w : Wf a s T) (g : Good k T) (hT : T < 999999) (x : UInt8) :
    ∃ H' sa' si', bus_Bus_In (some (b, 0)) ((x.toNat : Nat) : Int) H = some ((), H') ∧ Bx H' L b a s (k.inF a x) sa' si' ∧ Keep (fun x => ¬ L x) H H' := by
  have hsz := w.sz
  have gw := g.wr
  have hil := h.ilen
  have ew : IntKind.wrap .i64 ((a.S : Int) + 32) = ((a.S + 32 : Nat) : Int) := by rw [wrap_i64 (by omega) (by omega)]; omega
  unfold bus_Bus_In Bs.inF
  simp only [Option.isNone_some, cond_f, bus_ready h, bind_some, Nat.zero_add, h.rst, h.rinn, h.rp]
  obtain ⟨Hg, g1, g2, g3⟩ := nand_geometry h.nd
  have hg := h.keep g3 fun _ _ => id
  have k0 : Keep (fun x => ¬ L x) H Hg := g3.mono fun _ hf => hf.elim
  simp only [g1, bind_some, hg.rinn, if_true, ew, hil]
  cases e1 : decide (k.busy = 0) with
  | false =>
    obtain ⟨H1, a1, a2, a3⟩ := bus_violate h (by omega)
    refine ⟨H1, _, _, ?_, a2, a3⟩
    simp only [Bool.not_false, cond_t, bind_some, a1]
  | true =>
    cases e2 : decide ((k.st : Int) = 2) with
    | false =>
      obtain ⟨H1, a1, a2, a3⟩ := bus_violate h (by omega)
      refine ⟨H1, _, _, ?_, a2, a3⟩
      simp only [Bool.not_true, Bool.not_false, cond_f, cond_t, bind_some, a1]
    | true =>
      cases e3 : decide (((a.S + 32 : Nat) : Int) ≤ (k.inn.length : Int)) with
      | true =>
        obtain ⟨H1, a1, a2, a3⟩ := bus_violate hg (by omega)
        refine ⟨H1, _, _, ?_, a2, k0.trans a3⟩
        simp only [Bool.not_true, cond_f, cond_t, bind_some, a1]
      | false =>
        obtain ⟨si', H1, H2, a1, a2, a3, a4⟩ := hg.appI x (by have := g.inn; omega)
        refine ⟨H2, _, _, ?_, a3, k0.trans a4⟩
        have hr : slRow (Hg ++ [.cells [.int .u8 ((x.toNat : Nat) : Int)] .exact]) 1 ⟨some (Hg.length, 0), 1, 1⟩ = some [.int .u8 ((x.toNat : Nat) : Int)] := row_last rfl
        simp only [Bool.not_true, cond_f, bind_some, hg.rinn, hr, a1, a2]

/-- A poll. -/
def Bs.poll (k : Bs) : Bs := { k with busy := k.busy - 1 }
theorem pred_i64 {n : Nat} (h : 0 < n) (h2 : n < 1000000) : IntKind.wrap .i64 ((n : Int) - 1) = ((n - 1 : Nat) : Int) := by rw [wrap_i64 (by omega) (by omega)]; omega
theorem poll_zero (h : k.busy = 0) : k.poll = k := by unfold Bs.poll; rw [h]; cases k; simp only at h; subst h; rfl
theorem bus_Ready (h : Bx H L b a s k sa si) : ∃ H', bus_Bus_Ready (some (b, 0)) H = some ((decide (k.poll.busy = 0), ()), H') ∧ Bx H' L b a s k.poll sa si ∧ Keep (fun x => ¬ L x) H H' := by
  have sm := h.sm
  unfold bus_Bus_Ready
  simp only [Option.isNone_some, cond_f, bind_some, Nat.zero_add, h.rbusy]
  by_cases h0 : 0 < k.busy
  · obtain ⟨H1, a1, a2, a3⟩ := h.wr k.poll (j := 8) (v := .int .i64 ((k.busy - 1 : Nat) : Int)) (by decide) rfl rfl rfl (by show 0 ≤ k.wrong ∧ k.wrong < 1000000 ∧ k.at' < 1000000 ∧ k.busy - 1 < 1000000; omega)
    refine ⟨H1, ?_, a2, h.lowb a3⟩
    have : decide (((k.poll.busy : Nat) : Int) = 0) = decide (k.poll.busy = 0) := decide_eq_decide.2 (by omega)
    simp only [decide_eq_true (show (0 : Int) < (k.busy : Int) by omega), cond_t, pred_i64 h0 sm.2.2.2, a1, bind_some, a2.rbusy, this]
  · have hz : k.busy = 0 := by omega
    refine ⟨H, ?_, by rw [poll_zero hz]; exact h, Keep.refl _ _⟩
    rw [poll_zero hz]
    have : decide ((k.busy : Int) = 0) = decide (k.busy = 0) := decide_eq_decide.2 (by omega)
    simp only [decide_eq_false (show ¬ (0 : Int) < (k.busy : Int) by omega), cond_f, this]
def Bs.stat (k : Bs) : Int := cond k.fail (cond (decide (k.poll.busy = 0)) 193 129) (cond (decide (k.poll.busy = 0)) 192 128)
theorem bus_status (h : Bx H L b a s k sa si) : ∃ H', bus_Bus_status (some (b, 0)) H = some ((k.stat, ()), H') ∧ Bx H' L b a s k.poll sa si ∧ Keep (fun x => x = b) H H' := by
  have sm := h.sm
  have q1 : bitsI .or .u8 128 64 = 192 := by decide
  have q2 : bitsI .or .u8 192 1 = 193 := by decide
  have q3 : bitsI .or .u8 128 1 = 129 := by decide
  have fin : ∀ {G : Heap}, Bx G L b a s k.poll sa si → ((cond (decide (((k.poll.busy : Nat) : Int) = 0)) (some ((bitsI .or .u8 128 64, ()), G)) (some ((128, ()), G)) : Option ((Int × Unit) × Heap)).bind fun (p10 : (Int × Unit) × Heap) => cond k.fail (some ((bitsI .or .u8 p10.1.1 1, ()), p10.2)) (some ((p10.1.1, ()), p10.2))) = some ((k.stat, ()), G) := by
    intro G _
    have e : decide (((k.poll.busy : Nat) : Int) = 0) = decide (k.poll.busy = 0) := decide_eq_decide.2 (by omega)
    unfold Bs.stat
    rw [e]
    cases k.fail <;> cases decide (k.poll.busy = 0) <;> simp only [cond_t, cond_f, bind_some, q1, q2, q3]
  unfold bus_Bus_status
  simp only [bind_some, Nat.zero_add, h.rbusy]
  by_cases h0 : 0 < k.busy
  · obtain ⟨H1, a1, a2, a3⟩ := h.wr k.poll (j := 8) (v := .int .i64 ((k.busy - 1 : Nat) : Int)) (by decide) rfl rfl rfl (by show 0 ≤ k.wrong ∧ k.wrong < 1000000 ∧ k.at' < 1000000 ∧ k.busy - 1 < 1000000; omega)
    refine ⟨H1, ?_, a2, a3⟩
    simp only [decide_eq_true (show (0 : Int) < (k.busy : Int) by omega), cond_t, pred_i64 h0 sm.2.2.2, a1, bind_some, a2.rbusy]
    have := fin a2
    cases hd : decide (((k.poll.busy : Nat) : Int) = 0) <;> rw [hd] at this <;> simp only [cond_t, cond_f, bind_some, a2.rfail] at this ⊢ <;> exact this
  · have hz : k.busy = 0 := by omega
    have hp := poll_zero hz
    refine ⟨H, ?_, by rw [hp]; exact h, Keep.refl _ _⟩
    have := fin (G := H) (by rw [hp]; exact h)
    rw [hp] at this
    simp only [decide_eq_false (show ¬ (0 : Int) < (k.busy : Int) by omega), cond_f, bind_some, h.rbusy]
    cases hd : decide ((k.busy : Int) = 0) <;> rw [hd] at this <;> simp only [cond_t, cond_f, bind_some, h.rfail] at this ⊢ <;> exact this

/-- A byte is asked for. -/
def Bs.outF (k : Bs) : Int × Bs :=
  cond k.asked (k.stat, ({ k with asked := false } : Bs).poll) (cond (!decide (k.busy = 0) || !decide ((k.st : Int) = 4)) (255, k.violate) (if h : k.at' < k.out.length then ((((k.out[k.at']'h).toNat : Nat) : Int), { k with at' := k.at' + 1 }) else (255, k)))
theorem bus_Out (h : Bx H L b a s k sa si) (g : Good k T) (hT : T < 999999) : ∃ H', bus_Bus_Out (some (b, 0)) H = some ((k.outF.1, ()), H') ∧ Bx H' L b a s k.outF.2 sa si ∧ Keep (fun x => x = b) H H' := by
  have sm := h.sm
  have gw := g.wr
  have go := g.out
  unfold bus_Bus_Out Bs.outF
  simp only [Option.isNone_some, cond_f, bind_some, Nat.zero_add, h.rasked]
  cases ha : k.asked with
  | true =>
    obtain ⟨H1, a1, a2, a3⟩ := h.wr { k with asked := false } (j := 10) (v := .bool false) (by decide) rfl rfl rfl sm
    obtain ⟨H2, b1, b2, b3⟩ := bus_status a2
    refine ⟨H2, ?_, b2, a3.trans b3⟩
    simp only [cond_t, a1, bind_some, b1]
    rfl
  | false =>
    simp only [cond_f, bus_ready h, bind_some, h.rst]
    cases e1 : decide (k.busy = 0) with
    | false =>
      obtain ⟨H1, a1, a2, a3⟩ := bus_violateB h (by omega)
      refine ⟨H1, ?_, a2, a3⟩
      simp only [Bool.not_false, cond_t, bind_some, a1, Bool.true_or]
    | true =>
      cases e2 : decide ((k.st : Int) = 4) with
      | false =>
        obtain ⟨H1, a1, a2, a3⟩ := bus_violateB h (by omega)
        refine ⟨H1, ?_, a2, a3⟩
        simp only [Bool.not_true, Bool.not_false, cond_f, cond_t, bind_some, a1, Bool.false_or]
      | true =>
        simp only [Bool.not_true, cond_f, bind_some, h.rat, h.rout, Bool.false_or]
        by_cases hl : k.at' < k.out.length
        · obtain ⟨H1, a1, a2, a3⟩ := h.wr { k with at' := k.at' + 1 } (j := 7) (v := .int .i64 ((k.at' + 1 : Nat) : Int)) (by decide) rfl rfl rfl (by show 0 ≤ k.wrong ∧ k.wrong < 1000000 ∧ k.at' + 1 < 1000000 ∧ k.busy < 1000000; omega)
          refine ⟨H1, ?_, by rw [dif_pos hl, ← ha]; exact a2, a3⟩
          have ew : IntKind.wrap .i64 ((k.at' : Int) + 1) = ((k.at' + 1 : Nat) : Int) := wrap_succ (by omega)
          have ew2 : IntKind.wrap .i64 (((k.at' + 1 : Nat) : Int) - 1) = (k.at' : Int) := by rw [wrap_i64 (by omega) (by omega)]; omega
          have ra : rdI .i64 H1 b 7 = some ((k.at' + 1 : Nat) : Int) := a2.rat
          have ro : rdS H1 b 6 = some k.out := a2.rout
          simp only [decide_eq_false (show ¬ (k.out.length : Int) ≤ (k.at' : Int) by omega), cond_f, ew, a1, bind_some, ra, ro, ew2, idx_of hl, dif_pos hl]
        · refine ⟨H, ?_, by rw [dif_neg hl]; exact h, Keep.refl _ _⟩
          simp only [decide_eq_true (show (k.out.length : Int) ≤ (k.at' : Int) by omega), cond_t, dif_neg hl]
end
end Ev
