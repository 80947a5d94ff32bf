/- BusNone, BusOrder, BusParams in plain Lean. -/
import Derived.Test.YtdjmipkijimajaaGRef31
import Derived.Test.YtdjmipkijimajaaSRef01
import Derived.Test.YtdjmipkijimajaaSRef04f
import Derived.Test.YtdjmipkijimajaaSLaw31
namespace Ev
open Go (IntKind)

theorem BusNone_true (x0 : Int) (_ : wfC (.int .u8 x0)) : law31_BusNone x0 = some (true, ()) := by
  obtain ⟨H1, g1, _⟩ := geometry_nil []
  have c1 : bus_Bus_Command none x0 [] = some ((), []) := rfl
  have c2 : bus_Bus_Address none x0 [] = some ((), []) := rfl
  have c3 : bus_Bus_In none x0 [] = some ((), []) := rfl
  have c4 : bus_New none [] = some ((none, 1, ()), H1) := by
    unfold bus_New
    simp only [g1, bind_some, decide_true, cond_t]
  have c5 : bus_Bus_Out none H1 = some ((255, ()), H1) := rfl
  have c6 : bus_Bus_Ready none H1 = some ((false, ()), H1) := rfl
  have c7 : bus_Bus_Wrong none H1 = some ((0, ()), H1) := rfl
  have c8 : bus_Bus_Chip none H1 = some ((none, ()), H1) := rfl
  unfold law31_BusNone law31_BusNone.on
  simp only [c1, c2, c3, c4, awake31, bind_some, cond_t, c5, c6, c7, c8, decide_true, Bool.not_false, Option.isNone_none]

theorem byte_of {x : Int} (h : wfC (.int .u8 x)) : ∃ u : UInt8, x = ((u.toNat : Nat) : Int) := by
  have h' : 0 ≤ x ∧ x ≤ 255 := h
  exact ⟨UInt8.ofNat x.toNat, (ofNat_byte (by omega)).symm⟩
theorem BusOrder_true (x0 x1 : Int) (_ : wfC (.int .i64 x0)) (h1 : wfC (.int .u8 x1)) : law31_BusOrder x0 x1 = some (true, ()) := by
  obtain ⟨u, rfl⟩ := byte_of h1
  unfold law31_BusOrder law31_BusOrder.on
  obtain ⟨H1, a, b, b1, b2, b3, b4⟩ := begun0 [] (0, 0, 0, ())
  simp only [b1, awake31, bind_some, Bool.not_true, cond_f]
  generalize Int.tmod (IntKind.wrap .i64 (Int.tmod x0 6 + 6)) 6 = n3
  have fin : ∀ {H2 : Heap} {k : Bs} {T : Int}, Bg H2 ([] : Heap).length b a (Nd.new [] [] []) k T → k.wrong = 1 → ((bus_Bus_Wrong (some (b, 0)) H2).bind fun (r12 : ((Int × Unit) × Heap)) => cond (decide (r12.1.1 = 1)) ((nand_Chip_Did (some (a.c, 0)) r12.2).bind fun (r13 : ((Int × Unit) × Heap)) => some ((decide (r13.1.1 = 0)), ())) (some (false, ()))) = some (true, ()) := by
    intro H2 k T h hw
    have hd : (Nd.new [] [] []).did = 0 := rfl
    rw [h.wrong, bind_some]
    simp only [hw, decide_true, cond_t, h.did, bind_some, hd]
  by_cases c0 : n3 = 0
  · obtain ⟨H2, d1, d2, _⟩ := b2.command (by decide) 16
    simp only [decide_eq_true c0, cond_t, d1, bind_some]
    exact fin d2 rfl
  · by_cases c1 : n3 = 1
    · obtain ⟨H2, d1, d2, _⟩ := b2.address (by decide) u
      simp only [decide_eq_false c0, decide_eq_true c1, cond_f, cond_t, d1, bind_some]
      exact fin d2 rfl
    · by_cases c2 : n3 = 2
      · obtain ⟨H2, d1, d2, _⟩ := b2.inn (by decide) u
        simp only [decide_eq_false c0, decide_eq_false c1, decide_eq_true c2, cond_f, cond_t, d1, bind_some]
        exact fin d2 rfl
      · by_cases c3 : n3 = 3
        · obtain ⟨H2, d1, d2, _⟩ := b2.out (by decide)
          simp only [decide_eq_false c0, decide_eq_false c1, decide_eq_false c2, decide_eq_true c3, cond_f, cond_t, d1, bind_some]
          exact fin d2 rfl
        · by_cases c4 : n3 = 4
          · obtain ⟨H2, d1, d2, _⟩ := b2.command (by decide) 255
            obtain ⟨H3, e1, e2, _⟩ := d2.command (by decide) 0
            simp only [decide_eq_false c0, decide_eq_false c1, decide_eq_false c2, decide_eq_false c3, decide_eq_true c4, cond_f, cond_t, d1, e1, bind_some]
            exact fin e2 rfl
          · obtain ⟨H2, d1, d2, _⟩ := b2.command (by decide) 1
            simp only [decide_eq_false c0, decide_eq_false c1, decide_eq_false c2, decide_eq_false c3, decide_eq_false c4, cond_f, d1, bind_some]
            exact fin d2 rfl

/-- What is told, byte by byte. -/
theorem told (k : Bs) (h1 : k.asked = false) (h2 : k.busy = 0) (h3 : k.st = 4) : ∀ n, k.at' + n ≤ k.out.length → Bs.outs n k = { k with at' := k.at' + n } ∧ Bs.bytes n k = (k.out.drop k.at').take n
  | 0, _ => ⟨by cases k; rfl, by simp [Bs.bytes]⟩
  | n + 1, h => by
    obtain ⟨o1, o2⟩ := told k h1 h2 h3 n (by omega)
    have ho : ({ k with at' := k.at' + n } : Bs).outF = ((((k.out[k.at' + n]'(by omega)).toNat : Nat) : Int), { k with at' := k.at' + n + 1 }) := by
      unfold Bs.outF
      simp only [h1, h2, h3, cond_f, decide_true, Bool.not_true, Bool.or_false]
      rw [show decide (((4 : Nat) : Int) = 4) = true from rfl, Bool.not_true, show (false || false) = false from rfl, cond_f, dif_pos (show k.at' + n < k.out.length by omega)]
    constructor
    · show (Bs.outs n k).outF.2 = _
      rw [o1, ho]; rfl
    · rw [bytes_succ, o1, o2, ho, List.take_add_one, List.getElem?_drop]
      congr 1
      rw [List.getElem?_eq_getElem (by omega)]
      simp
theorem silent (k : Bs) (h1 : k.asked = false) (h2 : k.busy = 0) (h3 : k.st = 4) (h : k.out.length ≤ k.at') : k.outF = (255, k) := by
  unfold Bs.outF
  simp only [h1, h2, h3, cond_f, decide_true, Bool.not_true, Bool.or_false]
  rw [show decide (((4 : Nat) : Int) = 4) = true from rfl, Bool.not_true, show (false || false) = false from rfl, cond_f, dif_neg (by omega)]

theorem ref_param {B P S : Nat} (hB : B ≤ 1000) (hP : P ≤ 1000) (hS : S ≤ 1000) : ref31_Param ((B : Int), (P : Int), (S : Int), ()) = some (par1 B P S, ()) := by
  have r0 : ∀ (l : Heap) , rdI .i64 (l ++ [Blk.cells [.int .i64 (B : Int), .int .i64 (P : Int), .int .i64 (S : Int)] .exact]) l.length 0 = some (B : Int) := fun l => rdI_of app_last rfl
  have r1 : ∀ (l : Heap) , rdI .i64 (l ++ [Blk.cells [.int .i64 (B : Int), .int .i64 (P : Int), .int .i64 (S : Int)] .exact]) l.length 1 = some (P : Int) := fun l => rdI_of app_last rfl
  have r2 : ∀ (l : Heap) , rdI .i64 (l ++ [Blk.cells [.int .i64 (B : Int), .int .i64 (P : Int), .int .i64 (S : Int)] .exact]) l.length 2 = some (S : Int) := fun l => rdI_of app_last rfl
  have wu : ∀ n : Nat, n < 4294967296 → IntKind.wrap .u64 (n : Int) = (n : Int) := fun n h => by rw [wrap_u64]; omega
  have fx : ∀ n : Nat, n < 4294967296 → ref04_Fixed (IntKind.wrap .u64 (n : Int)) 4 = some (leB 4 n, ()) := fun n h => by rw [wu n h]; exact ref04_Fixed_eq n 4 (by omega) (by decide)
  have f2 : ref04_Fixed 32 2 = some (leB 2 32, ()) := ref04_Fixed_eq 32 2 (by decide) (by decide)
  have hcr : ref01_Sum (parC B P S) = some (((crcMore 0 (parC B P S) : Nat) : Int), ()) := ref01_Sum_eq _ (by rw [parC_length]; decide)
  have hlt := crcMore_lt (c := 0) (s := parC B P S) (by decide)
  have c1 := cat_of (a := [84, 66, 1]) (b := leB 4 B) (by simp [leB_length])
  have c2 := cat_of (a := [84, 66, 1] ++ leB 4 B) (b := leB 4 P) (by simp [leB_length])
  have c3 := cat_of (a := [84, 66, 1] ++ leB 4 B ++ leB 4 P) (b := leB 4 S) (by simp [leB_length])
  have c4 : catS ([84, 66, 1] ++ leB 4 B ++ leB 4 P ++ leB 4 S) (leB 2 32) = some (parB B P S) := cat_of (a := [84, 66, 1] ++ leB 4 B ++ leB 4 P ++ leB 4 S) (b := leB 2 32) (by simp [leB_length])
  have c6 : catS (parC B P S) (leB 4 (crcMore 0 (parC B P S))) = some (par1 B P S) := cat_of (by rw [parC_length, leB_length]; decide)
  have hl := parB_length B P S
  have loop : ∀ G : Heap, loopW ref31_Param.s1 (parB B P S, ()) G = some ((parC B P S, ()), G) := by
    intro G
    refine loop_for' 3 (fun i => (parB B P S ++ List.replicate i 0, ())) (fun _ => G) (by simp) rfl ?_ ?_
    · intro i hi
      unfold ref31_Param.s1
      have : (parB B P S ++ List.replicate i 0).length = 17 + i := by rw [List.length_append, hl, List.length_replicate]
      have hc := cat_of (a := parB B P S ++ List.replicate i 0) (b := [0]) (by rw [this]; simp; omega)
      simp only [this, decide_eq_true (show ((17 + i : Nat) : Int) < 20 by omega), cond_t, hc, bind_some, List.append_assoc, ← List.replicate_succ']
    · unfold ref31_Param.s1
      have : (parB B P S ++ List.replicate 3 0).length = 20 := by rw [List.length_append, hl]; rfl
      simp only [this, decide_eq_false (show ¬ ((20 : Nat) : Int) < 20 by omega), cond_f]
      rfl
  unfold ref31_Param ref31_Param.on
  simp only [r0, r1, r2, bind_some, fx B (by omega), fx P (by omega), fx S (by omega), f2, c1, c2, c3, c4, loop, hcr, fx _ hlt, c6]

theorem par236 (a : NdA) (s : Nd) (f : Bool) (w : Int) : Bs.address a s ⟨1, 236, 1, [], [], [], 0, 0, f, false, w⟩ 0 = (s, ⟨4, 236, 1, [0], [], par3 a.B a.P a.S, 0, 3, f, false, w⟩) := rfl
theorem BusParams_true (x0 : Geo) (_ : ∀ c ∈ Tup.mk [.int .i64, .int .i64, .int .i64] x0, wfC c) : law31_BusParams x0 = some (true, ()) := by
  unfold law31_BusParams law31_BusParams.on
  have q1 : ([] : Heap) ++ [Blk.cells [.int .i64 x0.1, .int .i64 x0.2.1, .int .i64 x0.2.2.1] .exact] = [Blk.cells [.int .i64 x0.1, .int .i64 x0.2.1, .int .i64 x0.2.2.1] .exact] := rfl
  have r1 := rd_geo (H := [Blk.cells [.int .i64 x0.1, .int .i64 x0.2.1, .int .i64 x0.2.2.1] .exact]) (k := ([] : Heap).length) (g := x0) (bk := .exact) rfl
  obtain ⟨H1, a, b, b1, b2, b3, b4⟩ := begun0 [Blk.cells [.int .i64 x0.1, .int .i64 x0.2.1, .int .i64 x0.2.2.1] .exact] x0
  have eg : (x0.1, x0.2.1, x0.2.2.1, ()) = x0 := rfl
  obtain ⟨H2, g1, g2, _⟩ := b2.geometry
  have p1 := ref_param (B := a.B) (P := a.P) (S := a.S) (by omega) (by omega) (by omega)
  have p2 := param_eq (B := a.B) (P := a.P) (S := a.S) (by omega) (by omega) (by omega)
  obtain ⟨H3, c1, c2, _⟩ := g2.command (by decide) 236
  rw [start a _ Bs.new 236 rfl (by decide) (by decide) rfl, show wantsN 236 = 1 from rfl, show Bs.new.fail = false from rfl, show Bs.new.wrong = 0 from rfl] at c2
  obtain ⟨H4, d1, d2, _⟩ := c2.address (by decide) 0
  rw [par236] at d2
  have d1' : bus_Bus_Address (some (b, 0)) 0 H3 = some ((), H4) := d1
  obtain ⟨H5, e1, e2, _⟩ := d2.polls 3 (by decide) rfl
  have e1' : law31_polls (some (b, 0)) H4 = some ((3, ()), H5) := e1
  obtain ⟨H6, f1, f2, _⟩ := e2.take 72 (by decide) (by decide)
  have hl := par3_length a.B a.P a.S
  obtain ⟨t1, t2⟩ := told (⟨4, 236, 1, [0], [], par3 a.B a.P a.S, 0, 0, false, false, 0⟩ : Bs) rfl rfl rfl 72 (by show 0 + 72 ≤ (par3 a.B a.P a.S).length; omega)
  have t2' : Bs.bytes 72 (⟨4, 236, 1, [0], [], par3 a.B a.P a.S, 0, 0, false, false, 0⟩ : Bs) = par3 a.B a.P a.S := by
    rw [t2]; show ((par3 a.B a.P a.S).drop 0).take 72 = _; rw [List.drop_zero, List.take_of_length_le (by omega)]
  rw [t2'] at f1
  rw [t1] at f2
  have f1' : law31_take (some (b, 0)) 72 H5 = some ((par3 a.B a.P a.S, ()), H6) := f1
  obtain ⟨H7, h1, h2, _⟩ := f2.geometry
  obtain ⟨H8, i1, i2, _⟩ := h2.out (by decide)
  rw [silent _ rfl rfl rfl (by show (par3 a.B a.P a.S).length ≤ 0 + 72; omega)] at i1 i2
  have j1 := i2.wrong
  have k1 := cat_of (a := par1 a.B a.P a.S) (b := par1 a.B a.P a.S) (by rw [par1_length]; decide)
  have k2 : catS (par1 a.B a.P a.S ++ par1 a.B a.P a.S) (par1 a.B a.P a.S) = some (par3 a.B a.P a.S) := cat_of (by rw [List.length_append, par1_length]; decide)
  simp only [q1, r1, bind_some, eg, b1, awake31, Bool.not_true, cond_f, g1, p1, c1, d1', e1', f1', h1, p2, k1, k2, decide_true, cond_t, i1, j1]
end Ev
