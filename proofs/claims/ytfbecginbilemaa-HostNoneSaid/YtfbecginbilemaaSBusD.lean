/- The bus: what a second command does. -/
import Derived.Test.YtfbecginbilemaaSBusC
namespace Ev
open Go (IntKind)

def Bs.blk (a : NdA) (k : Bs) : Int := ((k.row / a.P : Nat) : Int)
def Bs.pg (a : NdA) (k : Bs) : Int := ((k.row % a.P : Nat) : Int)
def Bs.over (a : NdA) (k : Bs) : Bytes := List.replicate (min (a.S + 32) k.col) 255 ++ k.inn.take (min k.inn.length (a.S + 32 - min (a.S + 32) k.col)) ++ List.replicate (a.S + 32 - min (a.S + 32) k.col - min k.inn.length (a.S + 32 - min (a.S + 32) k.col)) 255
theorem over_length (a : NdA) (k : Bs) : (k.over a).length = a.S + 32 := by
  unfold Bs.over
  simp only [List.length_append, List.length_replicate, List.length_take]
  omega
theorem cells_take (l : Bytes) (n : Nat) : cellsOf (l.take n) = (cellsOf l).take n := by simp [cellsOf]
theorem cells_drop (l : Bytes) (n : Nat) : cellsOf (l.drop n) = (cellsOf l).drop n := by simp [cellsOf]
theorem cells_app (l m : Bytes) : cellsOf (l ++ m) = cellsOf l ++ cellsOf m := by simp [cellsOf]
theorem Grown.rowTake {H : Heap} {s : Sl} {cs : List C} (h : Grown H 1 s cs) (n c : Nat) (hn : n ≤ s.len) : slRow H 1 ⟨s.p, n, c⟩ = some (cs.take n) := by
  have hl := h.len
  cases hp : s.p with
  | none =>
    have := h.nil hp
    have : n = 0 := by omega
    subst this
    rfl
  | some x =>
    obtain ⟨e, hb⟩ := h.blk x hp
    unfold slRow
    simp only [Nat.mul_one]
    rcases hb with hb | hb <;>
    · unfold Heap.row
      simp only [hb, e]
      rw [cut_of (by omega)]
      rfl
theorem sub_ok {b o len cap lo hi : Nat} (h1 : lo ≤ hi) (h2 : hi ≤ cap) : Sl.sub 1 ⟨some (b, o), len, cap⟩ (lo : Int) (hi : Int) (cap : Int) = some ⟨some (b, o + lo), hi - lo, cap - lo⟩ := by
  unfold Sl.sub
  have : decide (0 ≤ (lo : Int) ∧ (lo : Int) ≤ (hi : Int) ∧ (hi : Int) ≤ (cap : Int) ∧ (cap : Int) ≤ (cap : Int)) = true := decide_eq_true (by omega)
  simp only [this, cond_t, Option.map_some, Int.toNat_natCast, Nat.mul_one]

theorem setL_mid : ∀ (D B A E : List C) (o : Nat), A.length = o → B.length = D.length → setL (A ++ B ++ E) o D = A ++ D ++ E
  | [], [], A, E, _, _, _ => by simp [setL]
  | x :: D, y :: B, A, E, o, ho, h => by
    subst ho
    rw [setL, List.append_assoc, List.set_append_right _ _ (Nat.le_refl _), Nat.sub_self, List.cons_append, List.set_cons_zero]
    have := setL_mid D B (A ++ [x]) E (A.length + 1) (by simp) (by simpa using h)
    simp only [List.append_assoc, List.cons_append, List.nil_append] at this ⊢
    exact this
  | [], _ :: _, _, _, _, _, h => by simp at h
  | _ :: _, [], _, _, _, _, h => by simp at h

section
variable {H : Heap} {L : Nat → Prop} {b : Nat} {a : NdA} {s : Nd} {k : Bs} {sa si : Sl} {D : Int}

theorem div_row (k : Bs) (a : NdA) (h : k.row < 16777216) : IntKind.wrap .i64 (Int.tdiv (k.row : Int) (a.P : Int)) = k.blk a := by
  show IntKind.wrap .i64 ((k.row / a.P : Nat) : Int) = _
  have h2 := Nat.div_le_self k.row a.P
  unfold Bs.blk
  generalize k.row / a.P = q at h2
  rw [wrap_i64 (by omega) (by omega)]
theorem mod_row (k : Bs) (a : NdA) : Int.tmod (k.row : Int) (a.P : Int) = k.pg a := rfl

def Bs.wrote (k : Bs) (e : Int) : Bs := { k with fail := !decide (e = 0), st := 0, busy := 7 }
theorem bus_write (h : Bx H L b a s k sa si) (w : Wf a s D) (ha : k.addr.length = 5) (hi : k.inn.length ≤ 2000) :
    ∃ H', bus_Bus_write (some (b, 0)) H = some ((), H') ∧ Bx H' L b a (s.progT a (k.blk a) (k.pg a) ((k.over a).take a.S) ((k.over a).drop a.S)).2 (k.wrote (s.progT a (k.blk a) (k.pg a) ((k.over a).take a.S) ((k.over a).drop a.S)).1) sa si ∧ Keep (fun x => ¬ L x) H H' := by
  have hsz := w.sz
  have hil := h.ilen
  obtain ⟨Hg, g1, g2, g3⟩ := nand_geometry h.nd
  have hg := h.keep g3 fun _ _ => id
  have hlb := h.lb
  have hbl := get_lt hg.cell
  generalize eX : Blk.cells [.int .i64 (a.B : Int), .int .i64 (a.P : Int), .int .i64 (a.S : Int)] .exact = X
  generalize eY : Blk.cells [.int .u8 255] .exact = Y
  have w1 : wr (Hg ++ [Blk.cells [.int .i64 0, .int .i64 0, .int .i64 0] .exact]) Hg.length 0 [.int .i64 (a.B : Int), .int .i64 (a.P : Int), .int .i64 (a.S : Int)] = some (Hg ++ [X]) := by
    rw [wr_last (by decide) (by simp), ← eX]; rfl
  have l1 : (Hg ++ [X]).length = Hg.length + 1 := by simp
  have l2 : (Hg ++ [X] ++ [Y]).length = Hg.length + 2 := by simp
  have hs7 : strOf (Hg ++ [X] ++ [Y]) ⟨some ((Hg ++ [X]).length, 0), 1, 1⟩ = some [255] := strOf_of (cs := [.int .u8 255]) (bk := .exact) (by rw [eY]; exact app_last) (by simp) rfl
  have q6 : (Hg ++ [X] ++ [Y])[Hg.length]? = some X := by rw [app_lt (by simp), app_last]
  have r8 : rdI .i64 (Hg ++ [X] ++ [Y]) Hg.length 2 = some (a.S : Int) := by rw [← eX] at q6 ⊢; exact rdI_of q6 rfl
  have rep := full_rep (n := a.S) (by omega)
  generalize eZ : Blk.cells (cellsOf (List.replicate (a.S + 32) 255)) .loose = Z
  have h10 : Bx (Hg ++ [X] ++ [Y] ++ [Z]) L b a s k sa si := ((hg.push X).push Y).push Z
  have hcol := bus_column h10 (by omega)
  have hmin : (if ((a.S + 32 : Nat) : Int) < (k.col : Int) then ((a.S + 32 : Nat) : Int) else (k.col : Int)) = ((min (a.S + 32) k.col : Nat) : Int) := by
    split <;> omega
  have hsub := sub_ok (b := (Hg ++ [X] ++ [Y]).length) (o := 0) (len := a.S + 32) (cap := a.S + 32) (lo := min (a.S + 32) k.col) (hi := a.S + 32) (by omega) (Nat.le_refl _)
  have hrow := h10.gi.rowTake (min si.len (a.S + 32 - min (a.S + 32) k.col)) si.cap (by omega)
  -- the copy
  have hcpy : ∃ Z', cpyS (Hg ++ [X] ++ [Y] ++ [Z]) 1 ⟨some ((Hg ++ [X] ++ [Y]).length, 0 + min (a.S + 32) k.col), a.S + 32 - min (a.S + 32) k.col, a.S + 32 - min (a.S + 32) k.col⟩ (min si.len (a.S + 32 - min (a.S + 32) k.col)) ((cellsOf k.inn).take (min si.len (a.S + 32 - min (a.S + 32) k.col))) = some (((min si.len (a.S + 32 - min (a.S + 32) k.col) : Nat) : Int), Hg ++ [X] ++ [Y] ++ [Z']) ∧ Z' = .cells (cellsOf (k.over a)) .loose := by
    refine ⟨.cells (cellsOf (k.over a)) .loose, ?_, rfl⟩
    unfold cpyS Bs.over
    rw [hil]
    by_cases h0 : min k.inn.length (a.S + 32 - min (a.S + 32) k.col) = 0
    · rw [h0, decide_eq_true (rfl : (0 : Nat) = 0), cond_t, ← eZ]
      have : List.replicate (min (a.S + 32) k.col) (255 : UInt8) ++ k.inn.take 0 ++ List.replicate (a.S + 32 - min (a.S + 32) k.col - 0) 255 = List.replicate (a.S + 32) 255 := by
        rw [List.take_zero, List.append_nil, List.replicate_append_replicate]
        congr 1; omega
      rw [this]; rfl
    · rw [decide_eq_false h0, cond_f]
      show ((wr (Hg ++ [X] ++ [Y] ++ [Z]) (Hg ++ [X] ++ [Y]).length (0 + min (a.S + 32) k.col) ((cellsOf k.inn).take (min k.inn.length (a.S + 32 - min (a.S + 32) k.col)))).bind fun H' => some (((min k.inn.length (a.S + 32 - min (a.S + 32) k.col) : Nat) : Int), H')) = _
      rw [← eZ, wr_last (by decide) (by rw [List.length_take, cells_len, cells_len, List.length_replicate]; omega), bind_some]
      rw [show List.replicate (a.S + 32) (255 : UInt8) = List.replicate (min (a.S + 32) k.col) 255 ++ List.replicate (min k.inn.length (a.S + 32 - min (a.S + 32) k.col)) 255 ++ List.replicate (a.S + 32 - min (a.S + 32) k.col - min k.inn.length (a.S + 32 - min (a.S + 32) k.col)) 255 by
        rw [List.replicate_append_replicate, List.replicate_append_replicate]; congr 1; omega]
      rw [cells_app, cells_app, setL_mid _ _ _ _ _ (by rw [cells_len, List.length_replicate, Nat.zero_add]) (by rw [cells_len, List.length_replicate, List.length_take, cells_len]; omega), cells_app, cells_app, cells_take]
  obtain ⟨Z', hc1, eZ'⟩ := hcpy
  have h17 : Bx (Hg ++ [X] ++ [Y] ++ [Z']) L b a s k sa si := ((hg.push X).push Y).push Z'
  have q17 : (Hg ++ [X] ++ [Y] ++ [Z'])[Hg.length]? = some X := by rw [app_lt (by simp), app_lt (by simp), app_last]
  have rP : rdI .i64 (Hg ++ [X] ++ [Y] ++ [Z']) Hg.length 1 = some (a.P : Int) := by rw [← eX] at q17 ⊢; exact rdI_of q17 rfl
  have rS : rdI .i64 (Hg ++ [X] ++ [Y] ++ [Z']) Hg.length 2 = some (a.S : Int) := by rw [← eX] at q17 ⊢; exact rdI_of q17 rfl
  have qz : (Hg ++ [X] ++ [Y] ++ [Z'])[(Hg ++ [X] ++ [Y]).length]? = some (.cells (cellsOf (k.over a)) .loose) := by rw [app_last, eZ']
  have hol := over_length a k
  have sub1 := sub_ok (b := (Hg ++ [X] ++ [Y]).length) (o := 0) (len := a.S + 32) (cap := a.S + 32) (lo := 0) (hi := a.S) (by omega) (by omega)
  have sub2 := sub_ok (b := (Hg ++ [X] ++ [Y]).length) (o := 0) (len := a.S + 32) (cap := a.S + 32) (lo := a.S) (hi := a.S + 32) (by omega) (by omega)
  have st1 : strOf (Hg ++ [X] ++ [Y] ++ [Z']) ⟨some ((Hg ++ [X] ++ [Y]).length, 0 + 0), a.S - 0, a.S + 32 - 0⟩ = some ((k.over a).take a.S) := strOf_of qz (by rw [cells_len]; omega) (by rw [cells_take]; simp)
  have st2 : strOf (Hg ++ [X] ++ [Y] ++ [Z']) ⟨some ((Hg ++ [X] ++ [Y]).length, 0 + a.S), a.S + 32 - a.S, a.S + 32 - a.S⟩ = some ((k.over a).drop a.S) := strOf_of qz (by rw [cells_len]; omega) (by rw [cells_drop, Nat.zero_add, List.take_of_length_le]; rw [List.length_drop, cells_len]; omega)
  have hr := bus_row h17 (by omega) (by omega)
  have hlt := row_lt k (by omega)
  obtain ⟨H1, p1, p2, p3⟩ := nand_programT h17.nd w (k.blk a) (k.pg a) ((k.over a).take a.S) ((k.over a).drop a.S)
  generalize ep : s.progT a (k.blk a) (k.pg a) ((k.over a).take a.S) ((k.over a).drop a.S) = pr at p1 p2 ⊢
  have hc := h17.chip p2 p3
  have sm := h.sm
  obtain ⟨H2, x1, x2, x3⟩ := hc.wr { k with fail := !decide (pr.1 = 0) } (j := 9) (v := .bool (!decide (pr.1 = 0))) (by decide) rfl rfl rfl sm
  obtain ⟨H3, y1, y2, y3⟩ := x2.wr { k with fail := !decide (pr.1 = 0), st := 0 } (j := 1) (v := .int .i64 0) (by decide) rfl rfl rfl sm
  obtain ⟨H4, z1, z2, z3⟩ := y2.wr (k.wrote pr.1) (j := 8) (v := .int .i64 7) (by decide) rfl rfl rfl (by show 0 ≤ k.wrong ∧ k.wrong < 1000000 ∧ k.at' < 1000000 ∧ (7 : Nat) < 1000000; omega)
  refine ⟨H4, ?_, z2, ?_⟩
  · unfold bus_Bus_write
    have hP : decide ((a.P : Int) = 0) = false := decide_eq_false (by omega)
    have sub1' : Sl.sub 1 ⟨some ((Hg ++ [X] ++ [Y]).length, 0), a.S + 32, a.S + 32⟩ 0 (a.S : Int) ((a.S + 32 : Nat) : Int) = _ := sub1
    simp only [bind_some, Nat.zero_add, h.rp, g1, w1, hs7, r8, rep, h10.rinn, hcol, eY, eZ, List.length_replicate, hmin]
    simp only [Nat.zero_add] at hsub hc1 sub1' sub2 st1 st2
    rw [hsub]
    simp only [bind_some, if_true, hrow, hc1, h17.rp, rP, rS, sub1', sub2, st1, st2, hr, hP, cond_f, div_row k a hlt, mod_row, p1, x1, y1, z1]
  · have k0 : Keep (fun x => ¬ L x) H (Hg ++ [X] ++ [Y] ++ [Z']) := (g3.mono fun _ hf => hf.elim).trans ((Keep.push _ _ _).trans ((Keep.push _ _ _).trans (Keep.push _ _ _)))
    exact (((k0.trans (h17.lowc p3)).trans (hc.lowb x3)).trans (x2.lowb y3)).trans (y2.lowb z3)
end
end Ev
