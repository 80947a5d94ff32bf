/- The bus: what holds whatever comes. -/
import Derived.Test.YtfbecginbilemaaSBusG
namespace Ev
open Go (IntKind)

section
variable {H : Heap} {L : Nat → Prop} {b : Nat} {a : NdA} {s : Nd} {k : Bs} {T : Int}

theorem Good.le (g : Good k T) {T' : Int} (h : T ≤ T') : Good k T' := ⟨by have := g.wr; omega, g.s1, g.s2, g.s3, g.al, g.inn, g.out, g.busy⟩
theorem Good.violate (g : Good k T) : Good k.violate (T + 1) := ⟨by have := g.wr; show k.wrong + 1 ≤ T + 1; omega, g.s1, g.s2, g.s3, g.al, g.inn, g.out, g.busy⟩
theorem Good.reset (g : Good k T) : Good k.reset T := ⟨g.wr, fun h => (by cases h), fun h => (by cases h), fun h => (by cases h), Nat.zero_le _, Nat.zero_le _, ⟨Nat.zero_le _, Nat.le_refl _⟩, by show 3 ≤ 15; decide⟩
theorem Good.asked (g : Good k T) (x : Bool) : Good { k with asked := x } T := ⟨g.wr, g.s1, g.s2, g.s3, g.al, g.inn, g.out, g.busy⟩
theorem Good.poll (g : Good k T) : Good k.poll T := ⟨g.wr, g.s1, g.s2, g.s3, g.al, g.inn, g.out, by have := g.busy; show k.busy - 1 ≤ 15; omega⟩
theorem Good.begun (g : Good k T) (c : Int) : Good (k.begun c) T := ⟨g.wr, fun _ => ⟨by show (0 : Int) < wantsN c; have := wants_le c; omega, rfl⟩, fun h => (by cases h), fun h => (by cases h), Nat.zero_le _, Nat.zero_le _, ⟨Nat.zero_le _, Nat.le_refl _⟩, g.busy⟩
theorem Good.idle (g : Good k T) (n : Nat) (hn : n ≤ 15) (f : Bool) : Good { k with fail := f, st := 0, busy := n } T := ⟨g.wr, fun h => (by cases h), fun h => (by cases h), fun h => (by cases h), g.al, g.inn, g.out, hn⟩
theorem Good.said (g : Good k T) (f : Bool) (t : Bytes) (n : Nat) (hn : n ≤ 15) (ht : t.length ≤ 2000) : Good { (({ k with fail := f } : Bs).tell t) with busy := n } T := ⟨g.wr, fun h => (by cases h), fun h => (by cases h), fun h => (by cases h), g.al, g.inn, ⟨ht, Nat.zero_le _⟩, hn⟩

theorem Good.readF (g : Good k T) (w : Wf a s T) : Good (k.readF a s) T := by
  refine g.said _ _ 3 (by decide) ?_
  have := readT_length w (k.blk a) (k.pg a)
  unfold Bs.got
  rw [List.length_drop, List.length_append]
  omega
/-- What a command does to the count of actions. -/
def isEnd (c : Int) : Int := if c = 16 ∨ c = 208 then 1 else 0
theorem isEnd0 (c : Int) : 0 ≤ isEnd c ∧ isEnd c ≤ 1 := by unfold isEnd; split <;> omega
theorem endF_good (w : Wf a s T) (g : Good k T) (hT : T < 999999) (c : Int) : Wf a (k.endF a s c).1 (T + 1) ∧ Good (k.endF a s c).2 (T + 1) ∧ (k.endF a s c).1.did ≤ s.did + isEnd c ∧ s.did ≤ (k.endF a s c).1.did := by
  have h01 := isEnd0 c
  have hsm := w.small
  unfold Bs.endF
  cases k.go with
  | false => exact ⟨w.le (by omega) (by omega), g.violate, by simp only [Bool.not_false, cond_t]; omega, Int.le_refl _⟩
  | true =>
    simp only [Bool.not_true, cond_f]
    cases k.is c 48 0 with
    | true => exact ⟨w.le (by omega) (by omega), (g.readF w).le (by omega), by simp only [cond_t]; omega, Int.le_refl _⟩
    | false =>
      simp only [cond_f]
      cases h2 : k.is c 16 128 with
      | true =>
        have hc : c = 16 := of_decide_eq_true (Bool.and_eq_true _ _ ▸ (h2 : (decide (c = 16) && decide (k.cmd = 128)) = true)).1
        have hi : isEnd c = 1 := by rw [hc]; rfl
        obtain ⟨w1, w2, w3⟩ := w.progT (by omega) (k.blk a) (k.pg a) ((k.over a).take a.S) ((k.over a).drop a.S)
        exact ⟨w1, (g.idle 7 (by decide) _).le (by omega), by rw [hi]; exact w2, w3⟩
      | false =>
        simp only [cond_f]
        cases h3 : k.is c 208 96 with
        | true =>
          have hc : c = 208 := of_decide_eq_true (Bool.and_eq_true _ _ ▸ (h3 : (decide (c = 208) && decide (k.cmd = 96)) = true)).1
          have hi : isEnd c = 1 := by rw [hc]; rfl
          obtain ⟨w1, w2, w3⟩ := w.eraseT (by omega) (k.blk a)
          exact ⟨w1, (g.idle 15 (by decide) _).le (by omega), by rw [hi]; exact w2, w3⟩
        | false => exact ⟨w.le (by omega) (by omega), g.violate, by simp only [cond_f]; omega, Int.le_refl _⟩
theorem command_good (w : Wf a s T) (g : Good k T) (hT : T < 999999) (c : Int) : Wf a (k.command a s c).1 (T + 1) ∧ Good (k.command a s c).2 (T + 1) ∧ (k.command a s c).1.did ≤ s.did + isEnd c ∧ s.did ≤ (k.command a s c).1.did := by
  have h01 := isEnd0 c
  have hsm := w.small
  unfold Bs.command
  split
  · exact ⟨w.le (by omega) (by omega), g.reset.le (by omega), by simp only; omega, Int.le_refl _⟩
  · split
    · exact ⟨w.le (by omega) (by omega), (g.asked true).le (by omega), by simp only; omega, Int.le_refl _⟩
    · split
      · unfold Bs.beginF
        cases starts c with
        | true => exact ⟨w.le (by omega) (by omega), ((g.asked false).begun c).le (by omega), by simp only [cond_t]; omega, Int.le_refl _⟩
        | false =>
          cases ends c with
          | true => exact endF_good w (g.asked false) hT c
          | false => exact ⟨w.le (by omega) (by omega), (g.asked false).violate, by simp only [cond_f]; omega, Int.le_refl _⟩
      · exact ⟨w.le (by omega) (by omega), g.violate, by simp only; omega, Int.le_refl _⟩
theorem inF_good (w : Wf a s T) (g : Good k T) (x : UInt8) : Good (k.inF a x) (T + 1) := by
  have hsz := w.sz
  unfold Bs.inF
  cases h : (!decide (k.busy = 0) || (!decide ((k.st : Int) = 2) || decide (((a.S + 32 : Nat) : Int) ≤ (k.inn.length : Int)))) with
  | true => exact g.violate
  | false =>
    have h1 := (Bool.or_eq_false_iff.1 (Bool.or_eq_false_iff.1 h).2).2
    have h2 := of_decide_eq_false h1
    exact ⟨by have := g.wr; show k.wrong ≤ T + 1; omega, g.s1, g.s2, g.s3, g.al, by show (k.inn ++ [x]).length ≤ 2000; rw [List.length_append, List.length_singleton]; omega, g.out, g.busy⟩
theorem outF_good (g : Good k T) : Good k.outF.2 (T + 1) := by
  unfold Bs.outF
  cases k.asked with
  | true => exact ((g.asked false).poll).le (by omega)
  | false =>
    simp only [cond_f]
    cases (!decide (k.busy = 0) || !decide ((k.st : Int) = 4)) with
    | true => exact g.violate
    | false =>
      simp only [cond_f]
      split
      · exact ⟨by have := g.wr; show k.wrong ≤ T + 1; omega, g.s1, g.s2, g.s3, g.al, g.inn, by have := g.out; refine ⟨this.1, ?_⟩; show k.at' + 1 ≤ k.out.length; omega, g.busy⟩
      · exact g.le (by omega)
theorem address_good (w : Wf a s T) (g : Good k T) (hT : T < 999999) (x : UInt8) : Wf a (k.address a s x).1 (T + 1) ∧ Good (k.address a s x).2 (T + 1) ∧ (k.address a s x).1.did ≤ s.did + 1 ∧ s.did ≤ (k.address a s x).1.did := by
  have hsm := w.small
  have same : Wf a s (T + 1) ∧ s.did ≤ s.did + 1 ∧ s.did ≤ s.did := ⟨w.le (by omega) (by omega), by omega, Int.le_refl _⟩
  unfold Bs.address
  cases h : (!decide (k.busy = 0) || !decide ((k.st : Int) = 1)) with
  | true => exact ⟨same.1, g.violate, same.2⟩
  | false =>
    simp only [cond_f]
    have h1 := (Bool.or_eq_false_iff.1 h).2
    have h2 : k.st = 1 := by
      have : decide ((k.st : Int) = 1) = true := by simpa using h1
      have := of_decide_eq_true this
      omega
    obtain ⟨s1, s2⟩ := g.s1 h2
    have hwl := wants_le k.cmd
    have hl : (k.addr ++ [x]).length = k.addr.length + 1 := by simp
    have gw := g.wr
    cases hc : decide (((k.came x).addr.length : Int) < k.want) with
    | true =>
      have hc' : (((k.addr ++ [x]).length : Nat) : Int) < k.want := of_decide_eq_true hc
      refine ⟨same.1, ⟨by show k.wrong ≤ T + 1; omega, fun _ => ⟨by show (((k.addr ++ [x]).length : Nat) : Int) < wantsN k.cmd; rw [← s2]; exact hc', s2⟩, fun e => ?_, fun e => ?_, by show (k.addr ++ [x]).length ≤ 5; omega, g.inn, g.out, g.busy⟩, same.2⟩
      · have e' : k.st = 2 := e
        omega
      · have e' : k.st = 3 := e
        omega
    | false =>
      have hc' : ¬ (((k.addr ++ [x]).length : Nat) : Int) < k.want := of_decide_eq_false hc
      simp only [cond_f]
      have hfl : (k.addr ++ [x]).length ≤ 5 := by omega
      have gf : Good (k.full x) T := ⟨g.wr, fun e => (by cases e), fun e => (by cases e), fun _ => by show (((k.addr ++ [x]).length : Nat) : Int) = wantsN k.cmd; omega, hfl, g.inn, g.out, g.busy⟩
      cases h3 : decide (k.cmd = 128) with
      | true =>
        have h3' := of_decide_eq_true h3
        exact ⟨same.1, ⟨by show k.wrong ≤ T + 1; omega, fun e => (by cases e), fun _ => by show (k.addr ++ [x]).length = 5; have e : wantsN 128 = 5 := rfl; rw [h3', e] at s1 s2; omega, fun e => (by cases e), hfl, g.inn, g.out, g.busy⟩, same.2⟩
      | false =>
        simp only [cond_f]
        cases decide (k.cmd = 144) with
        | true => exact ⟨same.1, ⟨by show k.wrong ≤ T + 1; omega, fun e => (by cases e), fun e => (by cases e), fun e => (by cases e), hfl, g.inn, ⟨by show 3 ≤ 2000; decide, Nat.zero_le _⟩, g.busy⟩, same.2⟩
        | false =>
          simp only [cond_f]
          cases decide (k.cmd = 236) with
          | true => exact ⟨same.1, ⟨by show k.wrong ≤ T + 1; omega, fun e => (by cases e), fun e => (by cases e), fun e => (by cases e), hfl, g.inn, ⟨by show (par3 a.B a.P a.S).length ≤ 2000; rw [par3_length]; decide, Nat.zero_le _⟩, by show 3 ≤ 15; decide⟩, same.2⟩
          | false =>
            simp only [cond_f]
            cases decide (k.cmd = 160) with
            | true =>
              obtain ⟨w1, w2, w3⟩ := w.markT (by omega) ((k.full x).blk a)
              exact ⟨w1, (gf.idle 7 (by decide) _).le (by omega), w2, w3⟩
            | false =>
              simp only [cond_f]
              cases decide (k.cmd = 165) with
              | true => exact ⟨same.1, (gf.said _ _ 3 (by decide) (by cases (s.markedT a ((k.full x).blk a)).1 <;> decide)).le (by omega), same.2⟩
              | false => exact ⟨same.1, gf.le (by omega), same.2⟩

theorem Bg.command (h : Bg H L b a s k T) (hT : T < 999999) (c : Int) : ∃ H', bus_Bus_Command (some (b, 0)) c H = some ((), H') ∧ Bg H' L b a (k.command a s c).1 (k.command a s c).2 (T + 1) ∧ Keep (fun x => ¬ L x) H H' := by
  obtain ⟨⟨sa, si, hx⟩, w, g⟩ := h
  obtain ⟨H', sa', si', e1, e2, e3⟩ := bus_Command hx w g hT c
  obtain ⟨c1, c2, _⟩ := command_good w g hT c
  exact ⟨H', e1, ⟨⟨sa', si', e2⟩, c1, c2⟩, e3⟩
theorem Bg.address (h : Bg H L b a s k T) (hT : T < 999999) (x : UInt8) : ∃ H', bus_Bus_Address (some (b, 0)) ((x.toNat : Nat) : Int) H = some ((), H') ∧ Bg H' L b a (k.address a s x).1 (k.address a s x).2 (T + 1) ∧ Keep (fun x => ¬ L x) H H' := by
  obtain ⟨⟨sa, si, hx⟩, w, g⟩ := h
  obtain ⟨H', sa', si', e1, e2, e3⟩ := bus_Address hx w g hT x
  obtain ⟨c1, c2, _⟩ := address_good w g hT x
  exact ⟨H', e1, ⟨⟨sa', si', e2⟩, c1, c2⟩, e3⟩
theorem Bg.inn (h : Bg H L b a s k T) (hT : T < 999999) (x : UInt8) : ∃ H', bus_Bus_In (some (b, 0)) ((x.toNat : Nat) : Int) H = some ((), H') ∧ Bg H' L b a s (k.inF a x) (T + 1) ∧ Keep (fun x => ¬ L x) H H' := by
  obtain ⟨⟨sa, si, hx⟩, w, g⟩ := h
  have hsm := w.small
  obtain ⟨H', sa', si', e1, e2, e3⟩ := bus_In hx w g hT x
  exact ⟨H', e1, ⟨⟨sa', si', e2⟩, w.le (by omega) (by omega), inF_good w g x⟩, e3⟩
theorem Bg.out (h : Bg H L b a s k T) (hT : T < 999999) : ∃ H', bus_Bus_Out (some (b, 0)) H = some ((k.outF.1, ()), H') ∧ Bg H' L b a s k.outF.2 (T + 1) ∧ Keep (fun x => ¬ L x) H H' := by
  obtain ⟨⟨sa, si, hx⟩, w, g⟩ := h
  have hsm := w.small
  obtain ⟨H', e1, e2, e3⟩ := bus_Out hx g hT
  exact ⟨H', e1, ⟨⟨sa, si, e2⟩, w.le (by omega) (by omega), outF_good g⟩, hx.lowb e3⟩
theorem Bg.ready (h : Bg H L b a s k T) : ∃ H', bus_Bus_Ready (some (b, 0)) H = some ((decide (k.poll.busy = 0), ()), H') ∧ Bg H' L b a s k.poll T ∧ Keep (fun x => ¬ L x) H H' := by
  obtain ⟨⟨sa, si, hx⟩, w, g⟩ := h
  obtain ⟨H', e1, e2, e3⟩ := bus_Ready hx
  exact ⟨H', e1, ⟨⟨sa, si, e2⟩, w, g.poll⟩, e3⟩
theorem Bg.le (h : Bg H L b a s k T) {T' : Int} (h1 : T ≤ T') (h2 : T' ≤ 1000000) : Bg H L b a s k T' := ⟨h.1, h.2.1.le h1 h2, h.2.2.le h1⟩
theorem Bg.keep (h : Bg H L b a s k T) {F : Nat → Prop} {H' : Heap} (kp : Keep F H H') (hF : ∀ x, x < H.length → F x → False) : Bg H' L b a s k T := by
  obtain ⟨⟨sa, si, hx⟩, w, g⟩ := h
  exact ⟨⟨sa, si, hx.keep kp hF⟩, w, g⟩
theorem Bg.geometry (h : Bg H L b a s k T) : ∃ H', nand_Chip_Geometry (some (a.c, 0)) H = some ((((a.B : Int), (a.P : Int), (a.S : Int), ()), ()), H') ∧ Bg H' L b a s k T ∧ Keep (fun x => ¬ L x) H H' := by
  obtain ⟨⟨sa, si, hx⟩, _, _⟩ := id h
  obtain ⟨H', g1, _, g3⟩ := nand_geometry hx.nd
  exact ⟨H', g1, h.keep g3 fun _ _ => id, g3.mono fun _ hf => hf.elim⟩
theorem Bg.did (h : Bg H L b a s k T) : nand_Chip_Did (some (a.c, 0)) H = some ((s.did, ()), H) := by
  obtain ⟨⟨sa, si, hx⟩, _, _⟩ := h
  unfold nand_Chip_Did
  simp only [Option.isNone_some, cond_f, bind_some, Nat.zero_add, hx.nd.rdid]
end
end Ev
