/- The bus: commands that begin, bytes of addresses and pages, what is told. -/
import Derived.Test.YtfbecginbilemaaSBus
namespace Ev
open Go (IntKind)

section
variable {H : Heap} {L : Nat → Prop} {b : Nat} {a : NdA} {s : Nd} {k : Bs} {sa si : Sl}

theorem Bx.nilA (h : Bx H L b a s k sa si) : ∃ H', Ev.wr H b 4 [.sl 1 ⟨none, 0, 0⟩] = some H' ∧ Bx H' L b a s { k with addr := [] } ⟨none, 0, 0⟩ si ∧ Keep (fun x => ¬ L x) H H' := by
  have kp : Keep (fun x => x = b) H (H.set b (.cells ((k.cells a sa si).set 4 (.sl 1 ⟨none, 0, 0⟩)) .exact)) := Keep.set _ _ _ rfl
  refine ⟨_, wr1_of h.cell (by decide) (by simp [Bs.cells]), ?_, h.lowb kp⟩
  exact { nd := h.nd.keep kp fun x hx e => h.not (e ▸ hx), cell := by rw [set_get (get_lt h.cell)]; rfl, ga := Grown.ni _ 1, gi := h.gi.mono fun x hx => kp.same _ (h.gi.lt hx) (h.ni x hx).1, not := h.not, na := fun x hx => (by cases hx), ni := h.ni, ai := fun x y hx => (by cases hx), lo := h.lo, lb := h.lb, fl := fun x hx => Nat.lt_of_lt_of_le (h.fl x hx) kp.len, sm := h.sm }
theorem Bx.nilI (h : Bx H L b a s k sa si) : ∃ H', Ev.wr H b 5 [.sl 1 ⟨none, 0, 0⟩] = some H' ∧ Bx H' L b a s { k with inn := [] } sa ⟨none, 0, 0⟩ ∧ Keep (fun x => ¬ L x) H H' := by
  have kp : Keep (fun x => x = b) H (H.set b (.cells ((k.cells a sa si).set 5 (.sl 1 ⟨none, 0, 0⟩)) .exact)) := Keep.set _ _ _ rfl
  refine ⟨_, wr1_of h.cell (by decide) (by simp [Bs.cells]), ?_, h.lowb kp⟩
  exact { nd := h.nd.keep kp fun x hx e => h.not (e ▸ hx), cell := by rw [set_get (get_lt h.cell)]; rfl, ga := h.ga.mono fun x hx => kp.same _ (h.ga.lt hx) (h.na x hx).1, gi := Grown.ni _ 1, not := h.not, na := h.na, ni := fun x hx => (by cases hx), ai := fun x y _ hx => (by cases hx), lo := h.lo, lb := h.lb, fl := fun x hx => Nat.lt_of_lt_of_le (h.fl x hx) kp.len, sm := h.sm }

/-- A byte of an address comes. -/
theorem Bx.appA (h : Bx H L b a s k sa si) (x : UInt8) (hl : k.addr.length < 1000000) : ∃ sa' H1 H', appS (H ++ [.cells [.int .u8 ((x.toNat : Nat) : Int)] .exact]) 1 1 sa 1 [.int .u8 ((x.toNat : Nat) : Int)] = some (sa', H1) ∧ Ev.wr H1 b 4 [.sl 1 sa'] = some H' ∧ Bx H' L b a s { k with addr := k.addr ++ [x] } sa' si ∧ Keep (fun x => ¬ L x) H H' := by
  have hp := h.push (.cells [.int .u8 ((x.toNat : Nat) : Int)] .exact)
  have hal := h.alen
  obtain ⟨a1, a2⟩ := hp.ga.app (bytes := 1) (by decide) (n := 1) (new := [.int .u8 ((x.toNat : Nat) : Int)]) (by decide) rfl (by omega) (by omega)
  have gl := grownH_length (H ++ [.cells [.int .u8 ((x.toNat : Nat) : Int)] .exact]) sa (cellsOf k.addr ++ [.int .u8 ((x.toNat : Nat) : Int)])
  have hpl : (H ++ [Blk.cells [.int .u8 ((x.toNat : Nat) : Int)] .exact]).length = H.length + 1 := by simp
  have hb := get_lt h.cell
  -- what the growth keeps
  have kg : Keep (fun y => ∃ z, sa.p = some z ∧ y = z.1) (H ++ [.cells [.int .u8 ((x.toNat : Nat) : Int)] .exact]) (grownH (H ++ [.cells [.int .u8 ((x.toNat : Nat) : Int)] .exact]) sa (cellsOf k.addr ++ [.int .u8 ((x.toNat : Nat) : Int)])) :=
    ⟨by rw [gl]; omega, fun y hy hf => grownH_get hy fun z hz e => hf ⟨z, hz, e.symm⟩⟩
  have cg := kg.get hp.cell (fun ⟨z, hz, e⟩ => (h.na z hz).1 e.symm)
  have ng := hp.nd.keep kg fun y hy ⟨z, hz, e⟩ => (h.na z hz).2.1 (e ▸ hy)
  have kp : Keep (fun y => y = b) (grownH (H ++ [.cells [.int .u8 ((x.toNat : Nat) : Int)] .exact]) sa (cellsOf k.addr ++ [.int .u8 ((x.toNat : Nat) : Int)])) ((grownH (H ++ [.cells [.int .u8 ((x.toNat : Nat) : Int)] .exact]) sa (cellsOf k.addr ++ [.int .u8 ((x.toNat : Nat) : Int)])).set b (.cells ((k.cells a sa si).set 4 (.sl 1 ⟨some ((H ++ [Blk.cells [.int .u8 ((x.toNat : Nat) : Int)] .exact]).length, 0), sa.len + 1, sa.len + 1⟩)) .exact)) := Keep.set _ _ _ rfl
  refine ⟨_, _, _, a1, wr1_of cg (by decide) (by simp [Bs.cells]), ?_, ?_⟩
  · refine { nd := ng.keep kp fun y hy e => h.not (e ▸ hy), cell := by rw [set_get (get_lt cg)]; rfl, ga := ?_, gi := ?_, not := h.not, na := fun z hz => ?_, ni := h.ni, ai := fun z y hz hy => ?_, lo := h.lo, lb := h.lb, fl := fun y hy => (by have := h.fl y hy; have := kp.len; omega), sm := h.sm }
    · have : cellsOf (k.addr ++ [x]) = cellsOf k.addr ++ [.int .u8 ((x.toNat : Nat) : Int)] := (cells_snoc _ _).symm
      show Grown _ 1 _ (cellsOf (k.addr ++ [x]))
      rw [this]
      exact a2.mono fun z hz => kp.same _ (a2.lt hz) (by cases hz; simp; omega)
    · exact hp.gi.mono fun z hz => by
        rw [kp.same _ (by rw [gl]; have := hp.gi.lt hz; omega) (h.ni z hz).1]
        exact kg.same _ (hp.gi.lt hz) fun ⟨y, hy, e⟩ => h.ai y z hy hz e.symm
    · cases hz
      refine ⟨by simp; omega, fun hf => by have := h.nd.own_lt hf; simp at this; omega, ?_⟩
      intro hl2
      have := h.fl _ hl2
      simp at this; omega
    · cases hz
      have := h.gi.lt hy
      simp; omega
  · have hf : ∀ y, (∃ z, sa.p = some z ∧ y = z.1) → ¬ L y := fun y ⟨z, hz, e⟩ => e ▸ (h.na z hz).2.2
    exact ((Keep.push _ _ _).trans (kg.mono hf)).trans (kp.mono fun y e => e ▸ h.lb)
/-- A byte of a page comes. -/
theorem Bx.appI (h : Bx H L b a s k sa si) (x : UInt8) (hl : k.inn.length < 1000000) : ∃ si' H1 H', appS (H ++ [.cells [.int .u8 ((x.toNat : Nat) : Int)] .exact]) 1 1 si 1 [.int .u8 ((x.toNat : Nat) : Int)] = some (si', H1) ∧ Ev.wr H1 b 5 [.sl 1 si'] = some H' ∧ Bx H' L b a s { k with inn := k.inn ++ [x] } sa si' ∧ Keep (fun x => ¬ L x) H H' := by
  have hp := h.push (.cells [.int .u8 ((x.toNat : Nat) : Int)] .exact)
  have hal := h.ilen
  obtain ⟨a1, a2⟩ := hp.gi.app (bytes := 1) (by decide) (n := 1) (new := [.int .u8 ((x.toNat : Nat) : Int)]) (by decide) rfl (by omega) (by omega)
  have gl := grownH_length (H ++ [.cells [.int .u8 ((x.toNat : Nat) : Int)] .exact]) si (cellsOf k.inn ++ [.int .u8 ((x.toNat : Nat) : Int)])
  have hpl : (H ++ [Blk.cells [.int .u8 ((x.toNat : Nat) : Int)] .exact]).length = H.length + 1 := by simp
  have hb := get_lt h.cell
  -- what the growth keeps
  have kg : Keep (fun y => ∃ z, si.p = some z ∧ y = z.1) (H ++ [.cells [.int .u8 ((x.toNat : Nat) : Int)] .exact]) (grownH (H ++ [.cells [.int .u8 ((x.toNat : Nat) : Int)] .exact]) si (cellsOf k.inn ++ [.int .u8 ((x.toNat : Nat) : Int)])) :=
    ⟨by rw [gl]; omega, fun y hy hf => grownH_get hy fun z hz e => hf ⟨z, hz, e.symm⟩⟩
  have cg := kg.get hp.cell (fun ⟨z, hz, e⟩ => (h.ni z hz).1 e.symm)
  have ng := hp.nd.keep kg fun y hy ⟨z, hz, e⟩ => (h.ni z hz).2.1 (e ▸ hy)
  have kp : Keep (fun y => y = b) (grownH (H ++ [.cells [.int .u8 ((x.toNat : Nat) : Int)] .exact]) si (cellsOf k.inn ++ [.int .u8 ((x.toNat : Nat) : Int)])) ((grownH (H ++ [.cells [.int .u8 ((x.toNat : Nat) : Int)] .exact]) si (cellsOf k.inn ++ [.int .u8 ((x.toNat : Nat) : Int)])).set b (.cells ((k.cells a sa si).set 5 (.sl 1 ⟨some ((H ++ [Blk.cells [.int .u8 ((x.toNat : Nat) : Int)] .exact]).length, 0), si.len + 1, si.len + 1⟩)) .exact)) := Keep.set _ _ _ rfl
  refine ⟨_, _, _, a1, wr1_of cg (by decide) (by simp [Bs.cells]), ?_, ?_⟩
  · refine { nd := ng.keep kp fun y hy e => h.not (e ▸ hy), cell := by rw [set_get (get_lt cg)]; rfl, gi := ?_, ga := ?_, not := h.not, ni := fun z hz => ?_, na := h.na, ai := fun y z hy hz => ?_, lo := h.lo, lb := h.lb, fl := fun y hy => (by have := h.fl y hy; have := kp.len; omega), sm := h.sm }
    · exact hp.ga.mono fun z hz => by
        rw [kp.same _ (by rw [gl]; have := hp.ga.lt hz; omega) (h.na z hz).1]
        exact kg.same _ (hp.ga.lt hz) fun ⟨y, hy, e⟩ => h.ai z y hz hy e
    · have : cellsOf (k.inn ++ [x]) = cellsOf k.inn ++ [.int .u8 ((x.toNat : Nat) : Int)] := (cells_snoc _ _).symm
      show Grown _ 1 _ (cellsOf (k.inn ++ [x]))
      rw [this]
      exact a2.mono fun z hz => kp.same _ (a2.lt hz) (by cases hz; simp; omega)
    · cases hz
      refine ⟨by simp; omega, fun hf => by have := h.nd.own_lt hf; simp at this; omega, ?_⟩
      intro hl2
      have := h.fl _ hl2
      simp at this; omega
    · cases hz
      have := h.ga.lt hy
      simp; omega
  · have hf : ∀ y, (∃ z, si.p = some z ∧ y = z.1) → ¬ L y := fun y ⟨z, hz, e⟩ => e ▸ (h.ni z hz).2.2
    exact ((Keep.push _ _ _).trans (kg.mono hf)).trans (kp.mono fun y e => e ▸ h.lb)
end
end Ev
namespace Ev
open Go (IntKind)

def Bs.blk (a : NdA) (k : Bs) : Int := ((k.row / a.P : Nat) : Int)
def Bs.pg (a : NdA) (k : Bs) : Int := ((k.row % a.P : Nat) : Int)
def Bs.over (a : NdA) (k : Bs) : Bytes := List.replicate (min (a.S + 32) k.col) 255 ++ k.inn.take (min k.inn.length (a.S + 32 - min (a.S + 32) k.col)) ++ List.replicate (a.S + 32 - min (a.S + 32) k.col - min k.inn.length (a.S + 32 - min (a.S + 32) k.col)) 255
theorem over_length (a : NdA) (k : Bs) : (k.over a).length = a.S + 32 := by
  unfold Bs.over
  simp only [List.length_append, List.length_replicate, List.length_take]
  omega
theorem cells_take (l : Bytes) (n : Nat) : cellsOf (l.take n) = (cellsOf l).take n := by simp [cellsOf]
theorem cells_drop (l : Bytes) (n : Nat) : cellsOf (l.drop n) = (cellsOf l).drop n := by simp [cellsOf]
theorem cells_app (l m : Bytes) : cellsOf (l ++ m) = cellsOf l ++ cellsOf m := by simp [cellsOf]
theorem Grown.rowTake {H : Heap} {s : Sl} {cs : List C} (h : Grown H 1 s cs) (n c : Nat) (hn : n ≤ s.len) : slRow H 1 ⟨s.p, n, c⟩ = some (cs.take n) := by
  have hl := h.len
  cases hp : s.p with
  | none =>
    have := h.nil hp
    have : n = 0 := by omega
    subst this
    rfl
  | some x =>
    obtain ⟨e, hb⟩ := h.blk x hp
    unfold slRow
    simp only [Nat.mul_one]
    rcases hb with hb | hb <;>
    · unfold Heap.row
      simp only [hb, e]
      rw [cut_of (by omega)]
      rfl
theorem sub_ok {b o len cap lo hi : Nat} (h1 : lo ≤ hi) (h2 : hi ≤ cap) : Sl.sub 1 ⟨some (b, o), len, cap⟩ (lo : Int) (hi : Int) (cap : Int) = some ⟨some (b, o + lo), hi - lo, cap - lo⟩ := by
  unfold Sl.sub
  have : decide (0 ≤ (lo : Int) ∧ (lo : Int) ≤ (hi : Int) ∧ (hi : Int) ≤ (cap : Int) ∧ (cap : Int) ≤ (cap : Int)) = true := decide_eq_true (by omega)
  simp only [this, cond_t, Option.map_some, Int.toNat_natCast, Nat.mul_one]

theorem setL_mid : ∀ (D B A E : List C) (o : Nat), A.length = o → B.length = D.length → setL (A ++ B ++ E) o D = A ++ D ++ E
  | [], [], A, E, _, _, _ => by simp [setL]
  | x :: D, y :: B, A, E, o, ho, h => by
    subst ho
    rw [setL, List.append_assoc, List.set_append_right _ _ (Nat.le_refl _), Nat.sub_self, List.cons_append, List.set_cons_zero]
    have := setL_mid D B (A ++ [x]) E (A.length + 1) (by simp) (by simpa using h)
    simp only [List.append_assoc, List.cons_append, List.nil_append] at this ⊢
    exact this
  | [], _ :: _, _, _, _, _, h => by simp at h
  | _ :: _, [], _, _, _, _, h => by simp at h

section
variable {H : Heap} {L : Nat → Prop} {b : Nat} {a : NdA} {s : Nd} {k : Bs} {sa si : Sl} {D : Int}

theorem div_row (k : Bs) (a : NdA) (h : k.row < 16777216) : IntKind.wrap .i64 (Int.tdiv (k.row : Int) (a.P : Int)) = k.blk a := by
  show IntKind.wrap .i64 ((k.row / a.P : Nat) : Int) = _
  have h2 := Nat.div_le_self k.row a.P
  unfold Bs.blk
  generalize k.row / a.P = q at h2
  rw [wrap_i64 (by omega) (by omega)]
theorem mod_row (k : Bs) (a : NdA) : Int.tmod (k.row : Int) (a.P : Int) = k.pg a := rfl

def Bs.wrote (k : Bs) (e : Int) : Bs := { k with fail := !decide (e = 0), st := 0, busy := 7 }
theorem bus_write (h : Bx H L b a s k sa si) (w : Wf a s D) (ha : k.addr.length = 5) (hi : k.inn.length ≤ 2000) :
    ∃ H', bus_Bus_write (some (b, 0)) H = some ((), H') ∧ Bx H' L b a (s.progT a (k.blk a) (k.pg a) ((k.over a).take a.S) ((k.over a).drop a.S)).2 (k.wrote (s.progT a (k.blk a) (k.pg a) ((k.over a).take a.S) ((k.over a).drop a.S)).1) sa si ∧ Keep (fun x => ¬ L x) H H' := by
  have hsz := w.sz
  have hil := h.ilen
  obtain ⟨Hg, g1, g2, g3⟩ := nand_geometry h.nd
  have hg := h.keep g3 fun _ _ => id
  have hlb := h.lb
  have hbl := get_lt hg.cell
  generalize eX : Blk.cells [.int .i64 (a.B : Int), .int .i64 (a.P : Int), .int .i64 (a.S : Int)] .exact = X
  generalize eY : Blk.cells [.int .u8 255] .exact = Y
  have w1 : wr (Hg ++ [Blk.cells [.int .i64 0, .int .i64 0, .int .i64 0] .exact]) Hg.length 0 [.int .i64 (a.B : Int), .int .i64 (a.P : Int), .int .i64 (a.S : Int)] = some (Hg ++ [X]) := by
    rw [wr_last (by decide) (by simp), ← eX]; rfl
  have l1 : (Hg ++ [X]).length = Hg.length + 1 := by simp
  have l2 : (Hg ++ [X] ++ [Y]).length = Hg.length + 2 := by simp
  have hs7 : strOf (Hg ++ [X] ++ [Y]) ⟨some ((Hg ++ [X]).length, 0), 1, 1⟩ = some [255] := strOf_of (cs := [.int .u8 255]) (bk := .exact) (by rw [eY]; exact app_last) (by simp) rfl
  have q6 : (Hg ++ [X] ++ [Y])[Hg.length]? = some X := by rw [app_lt (by simp), app_last]
  have r8 : rdI .i64 (Hg ++ [X] ++ [Y]) Hg.length 2 = some (a.S : Int) := by rw [← eX] at q6 ⊢; exact rdI_of q6 rfl
  have rep := full_rep (n := a.S) (by omega)
  generalize eZ : Blk.cells (cellsOf (List.replicate (a.S + 32) 255)) .loose = Z
  have h10 : Bx (Hg ++ [X] ++ [Y] ++ [Z]) L b a s k sa si := ((hg.push X).push Y).push Z
  have hcol := bus_column h10 (by omega)
  have hmin : (if ((a.S + 32 : Nat) : Int) < (k.col : Int) then ((a.S + 32 : Nat) : Int) else (k.col : Int)) = ((min (a.S + 32) k.col : Nat) : Int) := by
    split <;> omega
  have hsub := sub_ok (b := (Hg ++ [X] ++ [Y]).length) (o := 0) (len := a.S + 32) (cap := a.S + 32) (lo := min (a.S + 32) k.col) (hi := a.S + 32) (by omega) (Nat.le_refl _)
  have hrow := h10.gi.rowTake (min si.len (a.S + 32 - min (a.S + 32) k.col)) si.cap (by omega)
  -- the copy
  have hcpy : ∃ Z', cpyS (Hg ++ [X] ++ [Y] ++ [Z]) 1 ⟨some ((Hg ++ [X] ++ [Y]).length, 0 + min (a.S + 32) k.col), a.S + 32 - min (a.S + 32) k.col, a.S + 32 - min (a.S + 32) k.col⟩ (min si.len (a.S + 32 - min (a.S + 32) k.col)) ((cellsOf k.inn).take (min si.len (a.S + 32 - min (a.S + 32) k.col))) = some (((min si.len (a.S + 32 - min (a.S + 32) k.col) : Nat) : Int), Hg ++ [X] ++ [Y] ++ [Z']) ∧ Z' = .cells (cellsOf (k.over a)) .loose := by
    refine ⟨.cells (cellsOf (k.over a)) .loose, ?_, rfl⟩
    unfold cpyS Bs.over
    rw [hil]
    by_cases h0 : min k.inn.length (a.S + 32 - min (a.S + 32) k.col) = 0
    · rw [h0, decide_eq_true (rfl : (0 : Nat) = 0), cond_t, ← eZ]
      have : List.replicate (min (a.S + 32) k.col) (255 : UInt8) ++ k.inn.take 0 ++ List.replicate (a.S + 32 - min (a.S + 32) k.col - 0) 255 = List.replicate (a.S + 32) 255 := by
        rw [List.take_zero, List.append_nil, List.replicate_append_replicate]
        congr 1; omega
      rw [this]; rfl
    · rw [decide_eq_false h0, cond_f]
      show ((wr (Hg ++ [X] ++ [Y] ++ [Z]) (Hg ++ [X] ++ [Y]).length (0 + min (a.S + 32) k.col) ((cellsOf k.inn).take (min k.inn.length (a.S + 32 - min (a.S + 32) k.col)))).bind fun H' => some (((min k.inn.length (a.S + 32 - min (a.S + 32) k.col) : Nat) : Int), H')) = _
      rw [← eZ, wr_last (by decide) (by rw [List.length_take, cells_len, cells_len, List.length_replicate]; omega), bind_some]
      rw [show List.replicate (a.S + 32) (255 : UInt8) = List.replicate (min (a.S + 32) k.col) 255 ++ List.replicate (min k.inn.length (a.S + 32 - min (a.S + 32) k.col)) 255 ++ List.replicate (a.S + 32 - min (a.S + 32) k.col - min k.inn.length (a.S + 32 - min (a.S + 32) k.col)) 255 by
        rw [List.replicate_append_replicate, List.replicate_append_replicate]; congr 1; omega]
      rw [cells_app, cells_app, setL_mid _ _ _ _ _ (by rw [cells_len, List.length_replicate, Nat.zero_add]) (by rw [cells_len, List.length_replicate, List.length_take, cells_len]; omega), cells_app, cells_app, cells_take]
  obtain ⟨Z', hc1, eZ'⟩ := hcpy
  have h17 : Bx (Hg ++ [X] ++ [Y] ++ [Z']) L b a s k sa si := ((hg.push X).push Y).push Z'
  have q17 : (Hg ++ [X] ++ [Y] ++ [Z'])[Hg.length]? = some X := by rw [app_lt (by simp), app_lt (by simp), app_last]
  have rP : rdI .i64 (Hg ++ [X] ++ [Y] ++ [Z']) Hg.length 1 = some (a.P : Int) := by rw [← eX] at q17 ⊢; exact rdI_of q17 rfl
  have rS : rdI .i64 (Hg ++ [X] ++ [Y] ++ [Z']) Hg.length 2 = some (a.S : Int) := by rw [← eX] at q17 ⊢; exact rdI_of q17 rfl
  have qz : (Hg ++ [X] ++ [Y] ++ [Z'])[(Hg ++ [X] ++ [Y]).length]? = some (.cells (cellsOf (k.over a)) .loose) := by rw [app_last, eZ']
  have hol := over_length a k
  have sub1 := sub_ok (b := (Hg ++ [X] ++ [Y]).length) (o := 0) (len := a.S + 32) (cap := a.S + 32) (lo := 0) (hi := a.S) (by omega) (by omega)
  have sub2 := sub_ok (b := (Hg ++ [X] ++ [Y]).length) (o := 0) (len := a.S + 32) (cap := a.S + 32) (lo := a.S) (hi := a.S + 32) (by omega) (by omega)
  have st1 : strOf (Hg ++ [X] ++ [Y] ++ [Z']) ⟨some ((Hg ++ [X] ++ [Y]).length, 0 + 0), a.S - 0, a.S + 32 - 0⟩ = some ((k.over a).take a.S) := strOf_of qz (by rw [cells_len]; omega) (by rw [cells_take]; simp)
  have st2 : strOf (Hg ++ [X] ++ [Y] ++ [Z']) ⟨some ((Hg ++ [X] ++ [Y]).length, 0 + a.S), a.S + 32 - a.S, a.S + 32 - a.S⟩ = some ((k.over a).drop a.S) := strOf_of qz (by rw [cells_len]; omega) (by rw [cells_drop, Nat.zero_add, List.take_of_length_le]; rw [List.length_drop, cells_len]; omega)
  have hr := bus_row h17 (by omega) (by omega)
  have hlt := row_lt k (by omega)
  obtain ⟨H1, p1, p2, p3⟩ := nand_programT h17.nd w (k.blk a) (k.pg a) ((k.over a).take a.S) ((k.over a).drop a.S)
  generalize ep : s.progT a (k.blk a) (k.pg a) ((k.over a).take a.S) ((k.over a).drop a.S) = pr at p1 p2 ⊢
  have hc := h17.chip p2 p3
  have sm := h.sm
  obtain ⟨H2, x1, x2, x3⟩ := hc.wr { k with fail := !decide (pr.1 = 0) } (j := 9) (v := .bool (!decide (pr.1 = 0))) (by decide) rfl rfl rfl sm
  obtain ⟨H3, y1, y2, y3⟩ := x2.wr { k with fail := !decide (pr.1 = 0), st := 0 } (j := 1) (v := .int .i64 0) (by decide) rfl rfl rfl sm
  obtain ⟨H4, z1, z2, z3⟩ := y2.wr (k.wrote pr.1) (j := 8) (v := .int .i64 7) (by decide) rfl rfl rfl (by show 0 ≤ k.wrong ∧ k.wrong < 1000000 ∧ k.at' < 1000000 ∧ (7 : Nat) < 1000000; omega)
  refine ⟨H4, ?_, z2, ?_⟩
  · unfold bus_Bus_write
    have hP : decide ((a.P : Int) = 0) = false := decide_eq_false (by omega)
    have sub1' : Sl.sub 1 ⟨some ((Hg ++ [X] ++ [Y]).length, 0), a.S + 32, a.S + 32⟩ 0 (a.S : Int) ((a.S + 32 : Nat) : Int) = _ := sub1
    simp only [bind_some, Nat.zero_add, h.rp, g1, w1, hs7, r8, rep, h10.rinn, hcol, eY, eZ, List.length_replicate, hmin]
    simp only [Nat.zero_add] at hsub hc1 sub1' sub2 st1 st2
    rw [hsub]
    simp only [bind_some, if_true, hrow, hc1, h17.rp, rP, rS, sub1', sub2, st1, st2, hr, hP, cond_f, div_row k a hlt, mod_row, p1, x1, y1, z1]
  · have k0 : Keep (fun x => ¬ L x) H (Hg ++ [X] ++ [Y] ++ [Z']) := (g3.mono fun _ hf => hf.elim).trans ((Keep.push _ _ _).trans ((Keep.push _ _ _).trans (Keep.push _ _ _)))
    exact (((k0.trans (h17.lowc p3)).trans (hc.lowb x3)).trans (x2.lowb y3)).trans (y2.lowb z3)
end
end Ev
namespace Ev
open Go (IntKind)

theorem orB (p q : Bool) (H : Heap) : (cond p (some ((true, ()), H)) (some ((q, ()), H)) : Option ((Bool × Unit) × Heap)) = some ((p || q, ()), H) := by cases p <;> rfl
theorem andB (p q : Bool) (H : Heap) : (cond p (some ((q, ()), H)) (some ((false, ()), H)) : Option ((Bool × Unit) × Heap)) = some ((p && q, ()), H) := by cases p <;> rfl

def Bs.go (k : Bs) : Bool := decide ((k.st : Int) = 3) || decide ((k.st : Int) = 2)
def Bs.is (k : Bs) (c x y : Int) : Bool := decide (c = x) && decide (k.cmd = y)
def Bs.got (a : NdA) (s : Nd) (k : Bs) : Bytes := ((s.readT a (k.blk a) (k.pg a)).1 ++ (s.readT a (k.blk a) (k.pg a)).2.1).drop (min ((s.readT a (k.blk a) (k.pg a)).1 ++ (s.readT a (k.blk a) (k.pg a)).2.1).length k.col)
def Bs.readF (a : NdA) (s : Nd) (k : Bs) : Bs := { (({ k with fail := !decide ((s.readT a (k.blk a) (k.pg a)).2.2.1 = 0) } : Bs).tell (k.got a s)) with busy := 3 }
def Bs.erased (k : Bs) (e : Int) : Bs := { k with fail := !decide (e = 0), st := 0, busy := 15 }
def Bs.endF (a : NdA) (s : Nd) (k : Bs) (c : Int) : Nd × Bs :=
  cond (!k.go) (s, k.violate) (cond (k.is c 48 0) (s, k.readF a s)
    (cond (k.is c 16 128) ((s.progT a (k.blk a) (k.pg a) ((k.over a).take a.S) ((k.over a).drop a.S)).2, k.wrote (s.progT a (k.blk a) (k.pg a) ((k.over a).take a.S) ((k.over a).drop a.S)).1)
      (cond (k.is c 208 96) ((s.eraseT a (k.blk a)).2, k.erased (s.eraseT a (k.blk a)).1) (s, k.violate))))

/-- What holds of a bus whatever comes. -/
structure Good (k : Bs) (T : Int) : Prop where
  wr : k.wrong ≤ T
  s1 : k.st = 1 → (k.addr.length : Int) < wantsN k.cmd ∧ k.want = wantsN k.cmd
  s2 : k.st = 2 → k.addr.length = 5
  s3 : k.st = 3 → (k.addr.length : Int) = wantsN k.cmd
  al : k.addr.length ≤ 5
  inn : k.inn.length ≤ 2000
  out : k.out.length ≤ 2000 ∧ k.at' ≤ k.out.length
  busy : k.busy ≤ 15
theorem wants_le (c : Int) : 1 ≤ wantsN c ∧ wantsN c ≤ 5 := by unfold wantsN; split <;> (try split) <;> omega

section
variable {H : Heap} {L : Nat → Prop} {b : Nat} {a : NdA} {s : Nd} {k : Bs} {sa si : Sl} {T : Int}

theorem Good.go3 (g : Good k T) (h : k.go = true) : (k.cmd = 0 ∨ k.cmd = 128 → k.addr.length = 5) ∧ (k.cmd = 96 → 3 ≤ k.addr.length) := by
  unfold Bs.go at h
  rcases Bool.or_eq_true _ _ ▸ h with h | h
  · have := g.s3 (by have := of_decide_eq_true h; omega)
    refine ⟨fun h => ?_, fun h => ?_⟩
    · rcases h with h | h <;> (rw [h] at this; have e : wantsN 0 = 5 := rfl; have e2 : wantsN 128 = 5 := rfl; omega)
    · rw [h] at this; have e : wantsN 96 = 3 := rfl; omega
  · have := g.s2 (by have := of_decide_eq_true h; omega)
    exact ⟨fun _ => this, fun _ => by omega⟩

theorem bus_end (h : Bx H L b a s k sa si) (w : Wf a s T) (g : Good k T) (hT : T < 999999) (c : Int) :
    ∃ H', bus_Bus_end (some (b, 0)) c H = some ((), H') ∧ Bx H' L b a (k.endF a s c).1 (k.endF a s c).2 sa si ∧ Keep (fun x => ¬ L x) H H' := by
  have hsz := w.sz
  obtain ⟨Hg, g1, g2, g3⟩ := nand_geometry h.nd
  have hg := h.keep g3 fun _ _ => id
  have hlb := h.lb
  have hbl := get_lt hg.cell
  generalize eX : Blk.cells [.int .i64 (a.B : Int), .int .i64 (a.P : Int), .int .i64 (a.S : Int)] .exact = X
  have w1 : wr (Hg ++ [Blk.cells [.int .i64 0, .int .i64 0, .int .i64 0] .exact]) Hg.length 0 [.int .i64 (a.B : Int), .int .i64 (a.P : Int), .int .i64 (a.S : Int)] = some (Hg ++ [X]) := by
    rw [wr_last (by decide) (by simp), ← eX]; rfl
  have hx := hg.push X
  have k0 : Keep (fun x => ¬ L x) H (Hg ++ [X]) := (g3.mono fun _ hf => hf.elim).trans (Keep.push _ _ _)
  have rP : rdI .i64 (Hg ++ [X]) Hg.length 1 = some (a.P : Int) := rdI_of (by rw [← eX]; exact app_last) rfl
  have hP : decide ((a.P : Int) = 0) = false := decide_eq_false (by omega)
  have sm := h.sm
  have gw := g.wr
  obtain ⟨Hv, v1, v2, v3⟩ := bus_violate hx (by omega)
  unfold bus_Bus_end Bs.endF
  cases hgo : k.go with
  | false =>
    have hgo' : (decide ((k.st : Int) = 3) || decide ((k.st : Int) = 2)) = false := hgo
    refine ⟨Hv, ?_, v2, k0.trans v3⟩
    simp only [bind_some, Nat.zero_add, h.rp, g1, w1, hx.rst, orB, hgo', Bool.not_false, cond_t, v1]
  | true =>
    have hgo' : (decide ((k.st : Int) = 3) || decide ((k.st : Int) = 2)) = true := hgo
    obtain ⟨gl, gl3⟩ := g.go3 hgo
    simp only [bind_some, Nat.zero_add, h.rp, g1, w1, hx.rst, orB, hgo', Bool.not_true, cond_f, hx.rcmd, andB]
    cases h1 : k.is c 48 0 with
    | true =>
      have h1' : (decide (c = 48) && decide (k.cmd = 0)) = true := h1
      have hc0 : k.cmd = 0 := of_decide_eq_true (Bool.and_eq_true _ _ ▸ h1').2
      have hal := gl (.inl hc0)
      have hr := bus_row hx (by omega) (by omega)
      have hlt := row_lt k (by omega)
      obtain ⟨H1, p1, p2, p3⟩ := nand_readT hx.nd w (k.blk a) (k.pg a)
      have hc := hx.keep p3 fun _ _ => id
      have hrl := readT_length w (k.blk a) (k.pg a)
      obtain ⟨H2, x1, x2, x3⟩ := hc.wr { k with fail := !decide ((s.readT a (k.blk a) (k.pg a)).2.2.1 = 0) } (j := 9) (v := .bool (!decide ((s.readT a (k.blk a) (k.pg a)).2.2.1 = 0))) (by decide) rfl rfl rfl sm
      have hcol := bus_column x2 (by show 2 ≤ k.addr.length; omega)
      obtain ⟨H3, y1, y2, y3⟩ := bus_tell x2 (k.got a s)
      obtain ⟨H4, z1, z2, z3⟩ := y2.wr (k.readF a s) (j := 8) (v := .int .i64 3) (by decide) rfl rfl rfl (by show 0 ≤ k.wrong ∧ k.wrong < 1000000 ∧ (0 : Nat) < 1000000 ∧ (3 : Nat) < 1000000; omega)
      refine ⟨H4, ?_, z2, ((((k0.trans (p3.mono fun _ hf => hf.elim)).trans (hc.lowb x3)).trans y3).trans (y2.lowb z3))⟩
      have hcat := cat_of (a := (s.readT a (k.blk a) (k.pg a)).1) (b := (s.readT a (k.blk a) (k.pg a)).2.1) (by omega)
      have hmin : (if ((((s.readT a (k.blk a) (k.pg a)).1 ++ (s.readT a (k.blk a) (k.pg a)).2.1).length : Nat) : Int) < (k.col : Int) then ((((s.readT a (k.blk a) (k.pg a)).1 ++ (s.readT a (k.blk a) (k.pg a)).2.1).length : Nat) : Int) else (k.col : Int)) = ((min ((s.readT a (k.blk a) (k.pg a)).1 ++ (s.readT a (k.blk a) (k.pg a)).2.1).length k.col : Nat) : Int) := by
        split <;> omega
      have hcol' : bus_Bus_column (some (b, 0)) H2 = some (((k.col : Int), ()), H2) := hcol
      have hsub := sub_of (s := (s.readT a (k.blk a) (k.pg a)).1 ++ (s.readT a (k.blk a) (k.pg a)).2.1) (lo := min ((s.readT a (k.blk a) (k.pg a)).1 ++ (s.readT a (k.blk a) (k.pg a)).2.1).length k.col) (hi := ((s.readT a (k.blk a) (k.pg a)).1 ++ (s.readT a (k.blk a) (k.pg a)).2.1).length) (by omega) (Nat.le_refl _)
      rw [List.take_length] at hsub
      have hsub' : subS _ _ _ = some (k.got a s) := hsub
      simp only [h1', cond_t, hx.rp, bind_some, rP, hr, hP, cond_f, if_true, div_row k a hlt, mod_row, p1, x1, hcat, hcol', hmin, hsub', y1, z1]
    | false =>
      have h1' : (decide (c = 48) && decide (k.cmd = 0)) = false := h1
      simp only [h1', cond_f]
      cases h2 : k.is c 16 128 with
      | true =>
        have h2' : (decide (c = 16) && decide (k.cmd = 128)) = true := h2
        have hc0 : k.cmd = 128 := of_decide_eq_true (Bool.and_eq_true _ _ ▸ h2').2
        obtain ⟨H1, p1, p2, p3⟩ := bus_write hx w (gl (.inr hc0)) g.inn
        refine ⟨H1, ?_, p2, k0.trans p3⟩
        simp only [h2', cond_t, p1, bind_some]
      | false =>
        have h2' : (decide (c = 16) && decide (k.cmd = 128)) = false := h2
        simp only [h2', cond_f]
        cases h3 : k.is c 208 96 with
        | true =>
          have h3' : (decide (c = 208) && decide (k.cmd = 96)) = true := h3
          have hc0 : k.cmd = 96 := of_decide_eq_true (Bool.and_eq_true _ _ ▸ h3').2
          have hal := gl3 hc0
          have hr := bus_row hx hal (by have := g.al; omega)
          have hlt := row_lt k hal
          obtain ⟨H1, p1, p2, p3⟩ := nand_eraseT hx.nd w (k.blk a)
          generalize ep : s.eraseT a (k.blk a) = pr at p1 p2 ⊢
          have hc := hx.chip p2 p3
          obtain ⟨H2, x1, x2, x3⟩ := hc.wr { k with fail := !decide (pr.1 = 0) } (j := 9) (v := .bool (!decide (pr.1 = 0))) (by decide) rfl rfl rfl sm
          obtain ⟨H3, y1, y2, y3⟩ := x2.wr { k with fail := !decide (pr.1 = 0), st := 0 } (j := 1) (v := .int .i64 0) (by decide) rfl rfl rfl sm
          obtain ⟨H4, z1, z2, z3⟩ := y2.wr (k.erased pr.1) (j := 8) (v := .int .i64 15) (by decide) rfl rfl rfl (by show 0 ≤ k.wrong ∧ k.wrong < 1000000 ∧ k.at' < 1000000 ∧ (15 : Nat) < 1000000; omega)
          refine ⟨H4, ?_, z2, (((k0.trans (hx.lowc p3)).trans (hc.lowb x3)).trans (x2.lowb y3)).trans (y2.lowb z3)⟩
          simp only [h3', cond_t, hx.rp, bind_some, rP, hr, hP, cond_f, if_true, div_row k a hlt, p1, x1, y1, z1]
        | false =>
          have h3' : (decide (c = 208) && decide (k.cmd = 96)) = false := h3
          refine ⟨Hv, ?_, v2, k0.trans v3⟩
          simp only [h3', cond_f, v1, bind_some]
end
end Ev
