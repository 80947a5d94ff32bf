/- The bus: commands that begin, bytes of addresses and pages, what is told. -/
import Derived.Test.YtfbecginbilemaaSBus
namespace Ev
open Go (IntKind)

section
variable {H : Heap} {L : Nat → Prop} {b : Nat} {a : NdA} {s : Nd} {k : Bs} {sa si : Sl}

theorem Bx.nilA (h : Bx H L b a s k sa si) : ∃ H', Ev.wr H b 4 [.sl 1 ⟨none, 0, 0⟩] = some H' ∧ Bx H' L b a s { k with addr := [] } ⟨none, 0, 0⟩ si ∧ Keep (fun x => ¬ L x) H H' := by
  have kp : Keep (fun x => x = b) H (H.set b (.cells ((k.cells a sa si).set 4 (.sl 1 ⟨none, 0, 0⟩)) .exact)) := Keep.set _ _ _ rfl
  refine ⟨_, wr1_of h.cell (by decide) (by simp [Bs.cells]), ?_, h.lowb kp⟩
  exact { nd := h.nd.keep kp fun x hx e => h.not (e ▸ hx), cell := by rw [set_get (get_lt h.cell)]; rfl, ga := Grown.ni _ 1, gi := h.gi.mono fun x hx => kp.same _ (h.gi.lt hx) (h.ni x hx).1, not := h.not, na := fun x hx => (by cases hx), ni := h.ni, ai := fun x y hx => (by cases hx), lo := h.lo, lb := h.lb, fl := fun x hx => Nat.lt_of_lt_of_le (h.fl x hx) kp.len, sm := h.sm }
theorem Bx.nilI (h : Bx H L b a s k sa si) : ∃ H', Ev.wr H b 5 [.sl 1 ⟨none, 0, 0⟩] = some H' ∧ Bx H' L b a s { k with inn := [] } sa ⟨none, 0, 0⟩ ∧ Keep (fun x => ¬ L x) H H' := by
  have kp : Keep (fun x => x = b) H (H.set b (.cells ((k.cells a sa si).set 5 (.sl 1 ⟨none, 0, 0⟩)) .exact)) := Keep.set _ _ _ rfl
  refine ⟨_, wr1_of h.cell (by decide) (by simp [Bs.cells]), ?_, h.lowb kp⟩
  exact { nd := h.nd.keep kp fun x hx e => h.not (e ▸ hx), cell := by rw [set_get (get_lt h.cell)]; rfl, ga := h.ga.mono fun x hx => kp.same _ (h.ga.lt hx) (h.na x hx).1, gi := Grown.ni _ 1, not := h.not, na := h.na, ni := fun x hx => (by cases hx), ai := fun x y _ hx => (by cases hx), lo := h.lo, lb := h.lb, fl := fun x hx => Nat.lt_of_lt_of_le (h.fl x hx) kp.len, sm := h.sm }

/-- A byte of an address comes. -/
theorem Bx.appA (h : Bx H L b a s k sa si) (x : UInt8) (hl : k.addr.length < 1000000) : ∃ sa' H1 H', appS (H ++ [.cells [.int .u8 ((x.toNat : Nat) : Int)] .exact]) 1 1 sa 1 [.int .u8 ((x.toNat : Nat) : Int)] = some (sa', H1) ∧ Ev.wr H1 b 4 [.sl 1 sa'] = some H' ∧ Bx H' L b a s { k with addr := k.addr ++ [x] } sa' si ∧ Keep (fun x => ¬ L x) H H' := by
  have hp := h.push (.cells [.int .u8 ((x.toNat : Nat) : Int)] .exact)
  have hal := h.alen
  obtain ⟨a1, a2⟩ := hp.ga.app (bytes := 1) (by decide) (n := 1) (new := [.int .u8 ((x.toNat : Nat) : Int)]) (by decide) rfl (by omega) (by omega)
  have gl := grownH_length (H ++ [.cells [.int .u8 ((x.toNat : Nat) : Int)] .exact]) sa (cellsOf k.addr ++ [.int .u8 ((x.toNat : Nat) : Int)])
  have hpl : (H ++ [Blk.cells [.int .u8 ((x.toNat : Nat) : Int)] .exact]).length = H.length + 1 := by simp
  have hb := get_lt h.cell
  -- what the growth keeps
  have kg : Keep (fun y => ∃ z, sa.p = some z ∧ y = z.1) (H ++ [.cells [.int .u8 ((x.toNat : Nat) : Int)] .exact]) (grownH (H ++ [.cells [.int .u8 ((x.toNat : Nat) : Int)] .exact]) sa (cellsOf k.addr ++ [.int .u8 ((x.toNat : Nat) : Int)])) :=
    ⟨by rw [gl]; omega, fun y hy hf => grownH_get hy fun z hz e => hf ⟨z, hz, e.symm⟩⟩
  have cg := kg.get hp.cell (fun ⟨z, hz, e⟩ => (h.na z hz).1 e.symm)
  have ng := hp.nd.keep kg fun y hy ⟨z, hz, e⟩ => (h.na z hz).2.1 (e ▸ hy)
  have kp : Keep (fun y => y = b) (grownH (H ++ [.cells [.int .u8 ((x.toNat : Nat) : Int)] .exact]) sa (cellsOf k.addr ++ [.int .u8 ((x.toNat : Nat) : Int)])) ((grownH (H ++ [.cells [.int .u8 ((x.toNat : Nat) : Int)] .exact]) sa (cellsOf k.addr ++ [.int .u8 ((x.toNat : Nat) : Int)])).set b (.cells ((k.cells a sa si).set 4 (.sl 1 ⟨some ((H ++ [Blk.cells [.int .u8 ((x.toNat : Nat) : Int)] .exact]).length, 0), sa.len + 1, sa.len + 1⟩)) .exact)) := Keep.set _ _ _ rfl
  refine ⟨_, _, _, a1, wr1_of cg (by decide) (by simp [Bs.cells]), ?_, ?_⟩
  · refine { nd := ng.keep kp fun y hy e => h.not (e ▸ hy), cell := by rw [set_get (get_lt cg)]; rfl, ga := ?_, gi := ?_, not := h.not, na := fun z hz => ?_, ni := h.ni, ai := fun z y hz hy => ?_, lo := h.lo, lb := h.lb, fl := fun y hy => (by have := h.fl y hy; have := kp.len; omega), sm := h.sm }
    · have : cellsOf (k.addr ++ [x]) = cellsOf k.addr ++ [.int .u8 ((x.toNat : Nat) : Int)] := (cells_snoc _ _).symm
      show Grown _ 1 _ (cellsOf (k.addr ++ [x]))
      rw [this]
      exact a2.mono fun z hz => kp.same _ (a2.lt hz) (by cases hz; simp; omega)
    · exact hp.gi.mono fun z hz => by
        rw [kp.same _ (by rw [gl]; have := hp.gi.lt hz; omega) (h.ni z hz).1]
        exact kg.same _ (hp.gi.lt hz) fun ⟨y, hy, e⟩ => h.ai y z hy hz e.symm
    · cases hz
      refine ⟨by simp; omega, fun hf => by have := h.nd.own_lt hf; simp at this; omega, ?_⟩
      intro hl2
      have := h.fl _ hl2
      simp at this; omega
    · cases hz
      have := h.gi.lt hy
      simp; omega
  · have hf : ∀ y, (∃ z, sa.p = some z ∧ y = z.1) → ¬ L y := fun y ⟨z, hz, e⟩ => e ▸ (h.na z hz).2.2
    exact ((Keep.push _ _ _).trans (kg.mono hf)).trans (kp.mono fun y e => e ▸ h.lb)
/-- A byte of a page comes. -/
theorem Bx.appI (h : Bx H L b a s k sa si) (x : UInt8) (hl : k.inn.length < 1000000) : ∃ si' H1 H', appS (H ++ [.cells [.int .u8 ((x.toNat : Nat) : Int)] .exact]) 1 1 si 1 [.int .u8 ((x.toNat : Nat) : Int)] = some (si', H1) ∧ Ev.wr H1 b 5 [.sl 1 si'] = some H' ∧ Bx H' L b a s { k with inn := k.inn ++ [x] } sa si' ∧ Keep (fun x => ¬ L x) H H' := by
  have hp := h.push (.cells [.int .u8 ((x.toNat : Nat) : Int)] .exact)
  have hal := h.ilen
  obtain ⟨a1, a2⟩ := hp.gi.app (bytes := 1) (by decide) (n := 1) (new := [.int .u8 ((x.toNat : Nat) : Int)]) (by decide) rfl (by omega) (by omega)
  have gl := grownH_length (H ++ [.cells [.int .u8 ((x.toNat : Nat) : Int)] .exact]) si (cellsOf k.inn ++ [.int .u8 ((x.toNat : Nat) : Int)])
  have hpl : (H ++ [Blk.cells [.int .u8 ((x.toNat : Nat) : Int)] .exact]).length = H.length + 1 := by simp
  have hb := get_lt h.cell
  -- what the growth keeps
  have kg : Keep (fun y => ∃ z, si.p = some z ∧ y = z.1) (H ++ [.cells [.int .u8 ((x.toNat : Nat) : Int)] .exact]) (grownH (H ++ [.cells [.int .u8 ((x.toNat : Nat) : Int)] .exact]) si (cellsOf k.inn ++ [.int .u8 ((x.toNat : Nat) : Int)])) :=
    ⟨by rw [gl]; omega, fun y hy hf => grownH_get hy fun z hz e => hf ⟨z, hz, e.symm⟩⟩
  have cg := kg.get hp.cell (fun ⟨z, hz, e⟩ => (h.ni z hz).1 e.symm)
  have ng := hp.nd.keep kg fun y hy ⟨z, hz, e⟩ => (h.ni z hz).2.1 (e ▸ hy)
  have kp : Keep (fun y => y = b) (grownH (H ++ [.cells [.int .u8 ((x.toNat : Nat) : Int)] .exact]) si (cellsOf k.inn ++ [.int .u8 ((x.toNat : Nat) : Int)])) ((grownH (H ++ [.cells [.int .u8 ((x.toNat : Nat) : Int)] .exact]) si (cellsOf k.inn ++ [.int .u8 ((x.toNat : Nat) : Int)])).set b (.cells ((k.cells a sa si).set 5 (.sl 1 ⟨some ((H ++ [Blk.cells [.int .u8 ((x.toNat : Nat) : Int)] .exact]).length, 0), si.len + 1, si.len + 1⟩)) .exact)) := Keep.set _ _ _ rfl
  refine ⟨_, _, _, a1, wr1_of cg (by decide) (by simp [Bs.cells]), ?_, ?_⟩
  · refine { nd := ng.keep kp fun y hy e => h.not (e ▸ hy), cell := by rw [set_get (get_lt cg)]; rfl, gi := ?_, ga := ?_, not := h.not, ni := fun z hz => ?_, na := h.na, ai := fun y z hy hz => ?_, lo := h.lo, lb := h.lb, fl := fun y hy => (by have := h.fl y hy; have := kp.len; omega), sm := h.sm }
    · exact hp.ga.mono fun z hz => by
        rw [kp.same _ (by rw [gl]; have := hp.ga.lt hz; omega) (h.na z hz).1]
        exact kg.same _ (hp.ga.lt hz) fun ⟨y, hy, e⟩ => h.ai z y hz hy e
    · have : cellsOf (k.inn ++ [x]) = cellsOf k.inn ++ [.int .u8 ((x.toNat : Nat) : Int)] := (cells_snoc _ _).symm
      show Grown _ 1 _ (cellsOf (k.inn ++ [x]))
      rw [this]
      exact a2.mono fun z hz => kp.same _ (a2.lt hz) (by cases hz; simp; omega)
    · cases hz
      refine ⟨by simp; omega, fun hf => by have := h.nd.own_lt hf; simp at this; omega, ?_⟩
      intro hl2
      have := h.fl _ hl2
      simp at this; omega
    · cases hz
      have := h.ga.lt hy
      simp; omega
  · have hf : ∀ y, (∃ z, si.p = some z ∧ y = z.1) → ¬ L y := fun y ⟨z, hz, e⟩ => e ▸ (h.ni z hz).2.2
    exact ((Keep.push _ _ _).trans (kg.mono hf)).trans (kp.mono fun y e => e ▸ h.lb)
end
end Ev
