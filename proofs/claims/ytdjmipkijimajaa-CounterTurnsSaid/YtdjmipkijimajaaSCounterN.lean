/- The counter: Open. -/
import Derived.Test.YtdjmipkijimajaaSCounterO
namespace Ev
open Go (IntKind)

/-- Which of both has the number. -/
def pickY (x y : One) : Bool := y.2.2.2.1 && (!x.2.2.2.1 || decide (x.1 < y.1))
def openCells (a : NdA) (b1 b2 : Int) (x y : One) : List C := [.ptr (some (a.c, 0)), .int .i64 b1, .int .i64 b2, .int .i64 (if pickY x y = true then 1 else 0), .int .i64 (if pickY x y = true then y.2.1 else x.2.1), .int .i64 (if pickY x y = true then y.1 else x.1), .int .i64 x.2.2.1, .int .i64 y.2.2.1, .bool false]

section
variable {H : Heap} {a : NdA} {s : Nd}

theorem open_no (h : NdAt H a s) {b1 b2 : Int} (hb : b1 = b2 ∨ b1 < 0 ∨ b2 < 0 ∨ (a.B : Int) ≤ b1 ∨ (a.B : Int) ≤ b2) : ∃ H', counter_Open (some (a.c, 0)) b1 b2 H = some ((none, 1, ()), H') ∧ NdAt H' a s ∧ Keep (fun _ => False) H H' := by
  unfold counter_Open
  obtain ⟨R, g1, g2, g3⟩ := nand_geometry h
  have w : wr (R ++ [Blk.cells [.int .i64 0, .int .i64 0, .int .i64 0] .exact]) R.length 0 [.int .i64 (a.B : Int), .int .i64 (a.P : Int), .int .i64 (a.S : Int)] = some (R ++ [Blk.cells [.int .i64 (a.B : Int), .int .i64 (a.P : Int), .int .i64 (a.S : Int)] .exact]) := by
    rw [wr_last (by decide) (by simp)]; rfl
  have r0 : rdI .i64 (R ++ [Blk.cells [.int .i64 (a.B : Int), .int .i64 (a.P : Int), .int .i64 (a.S : Int)] .exact]) R.length 0 = some (a.B : Int) := rdI_of app_last rfl
  refine ⟨_, ?_, g2.push (Blk.cells [.int .i64 (a.B : Int), .int .i64 (a.P : Int), .int .i64 (a.S : Int)] .exact), g3.trans (Keep.push _ _ _)⟩
  simp only [g1, bind_some, w, r0]
  by_cases h1 : b1 = b2
  · simp [h1]
  · by_cases h2 : b1 < 0
    · simp [h1, h2]
    · by_cases h3 : b2 < 0
      · simp [h1, h2, h3]
      · by_cases h4 : (a.B : Int) ≤ b1
        · simp [h1, h2, h3, h4]
        · by_cases h5 : (a.B : Int) ≤ b2
          · simp [h1, h2, h3, h4, h5]
          · exfalso
            rcases hb with h | h | h | h | h
            · exact h1 h
            · exact h2 h
            · exact h3 h
            · exact h4 h
            · exact h5 h

set_option maxHeartbeats 1000000 in
theorem open_yes (h : NdAt H a s) {b1 b2 : Nat} (hne : b1 ≠ b2) (hb1 : b1 < a.B) (hb2 : b2 < a.B) (ho : s.off = false) (f : Fine a s) (hP : a.P ≤ 1000) (hS : a.S ≤ 1000) :
    ∃ H' c, counter_Open (some (a.c, 0)) (b1 : Int) (b2 : Int) H = some ((some (c, 0), 0, ()), H') ∧ NdAt H' a s ∧ H'[c]? = some (.cells (openCells a b1 b2 (lookS a s b1 a.P) (lookS a s b2 a.P)) .exact) ∧ Keep (fun _ => False) H H' ∧ H.length ≤ c := by
  unfold counter_Open
  obtain ⟨R, g1, g2, g3⟩ := nand_geometry h
  let R1 : Heap := R ++ [Blk.cells [.int .i64 (a.B : Int), .int .i64 (a.P : Int), .int .i64 (a.S : Int)] .exact]
  have w : wr (R ++ [Blk.cells [.int .i64 0, .int .i64 0, .int .i64 0] .exact]) R.length 0 [.int .i64 (a.B : Int), .int .i64 (a.P : Int), .int .i64 (a.S : Int)] = some R1 := by
    rw [wr_last (by decide) (by simp)]; rfl
  have r0 : rdI .i64 R1 R.length 0 = some (a.B : Int) := rdI_of app_last rfl
  have n1 : NdAt R1 a s := g2.push _
  obtain ⟨R2, x1, x2, x3⟩ := look_eq n1 hb1 ho f hP hS
  generalize lookS a s b1 a.P = x at x1 ⊢
  let R3 : Heap := R2 ++ [oneB x]
  have wx : wr (R2 ++ [Blk.cells [.int .i64 0, .int .i64 0, .int .i64 0, .bool false] .exact]) R2.length 0 [.int .i64 x.1, .int .i64 x.2.1, .int .i64 x.2.2.1, .bool x.2.2.2.1] = some R3 := by
    rw [wr_last (by decide) (by simp)]; rfl
  have n3 : NdAt R3 a s := x2.push _
  have hx3 : R3[R2.length]? = some (oneB x) := app_last
  obtain ⟨R4, y1, y2, y3⟩ := look_eq n3 hb2 ho f hP hS
  generalize lookS a s b2 a.P = y at y1 ⊢
  let R5 : Heap := R4 ++ [oneB y]
  have wy : wr (R4 ++ [Blk.cells [.int .i64 0, .int .i64 0, .int .i64 0, .bool false] .exact]) R4.length 0 [.int .i64 y.1, .int .i64 y.2.1, .int .i64 y.2.2.1, .bool y.2.2.2.1] = some R5 := by
    rw [wr_last (by decide) (by simp)]; rfl
  have hx4 := y3.get hx3 id
  have hx5 : R5[R2.length]? = some (oneB x) := by rw [app_lt (get_lt hx4)]; exact hx4
  have hy5 : R5[R4.length]? = some (oneB y) := app_last
  let K : List C := [.ptr (some (a.c, 0)), .int .i64 b1, .int .i64 b2, .int .i64 0, .int .i64 0, .int .i64 0, .int .i64 x.2.2.1, .int .i64 y.2.2.1, .bool false]
  let R6 : Heap := R5 ++ [.cells K .exact]
  have hx6 : R6[R2.length]? = some (oneB x) := by rw [app_lt (get_lt hx5)]; exact hx5
  have hy6 : R6[R4.length]? = some (oneB y) := by rw [app_lt (get_lt hy5)]; exact hy5
  have hk6 : R6[R5.length]? = some (.cells K .exact) := app_last
  have n6 : NdAt R6 a s := (y2.push _).push _
  have k6 : Keep (fun _ => False) H R6 := ((((((g3.trans (Keep.push _ _ _)).trans x3).trans (Keep.push _ _ _)).trans y3).trans (Keep.push _ _ _)).trans (Keep.push _ _ _))
  have hl5 : H.length ≤ R5.length := by
    have := ((((((g3.trans (Keep.push _ _ _)).trans x3).trans (Keep.push _ _ _)).trans y3).trans (Keep.push _ _ (oneB y)))).len
    exact this
  have own5 : ∀ j, a.own j → j ≠ R5.length := fun j hj e => by have := h.own_lt hj; omega
  have ne2 : R2.length ≠ R5.length := by have := get_lt hx5; omega
  have ne4 : R4.length ≠ R5.length := by have := get_lt hy5; omega
  -- any cells in place of the counter's
  have st : ∀ {cs : List C} {G : Heap} (j : Nat) (v : C), Keep (fun k => k = R5.length) R6 G → G[R5.length]? = some (.cells cs .exact) → j < cs.length → ∃ G', wr G R5.length j [v] = some G' ∧ G'[R5.length]? = some (.cells (cs.set j v) .exact) ∧ Keep (fun k => k = R5.length) R6 G' :=
    fun {cs} {G} j v hk hg hj => ⟨_, wr1_of hg (by decide) hj, set_get (get_lt hg), hk.trans (Keep.set _ _ _ rfl)⟩
  have rx : ∀ {G : Heap}, Keep (fun k => k = R5.length) R6 G → rdI .i64 G R2.length 0 = some x.1 ∧ rdI .i64 G R2.length 1 = some x.2.1 ∧ rdI .i64 G R2.length 2 = some x.2.2.1 ∧ rdB G R2.length 3 = some x.2.2.2.1 := fun hk => ⟨rdI_of (hk.get hx6 ne2) rfl, rdI_of (hk.get hx6 ne2) rfl, rdI_of (hk.get hx6 ne2) rfl, rdB_of (hk.get hx6 ne2) rfl⟩
  have ry : ∀ {G : Heap}, Keep (fun k => k = R5.length) R6 G → rdI .i64 G R4.length 0 = some y.1 ∧ rdI .i64 G R4.length 1 = some y.2.1 ∧ rdI .i64 G R4.length 2 = some y.2.2.1 ∧ rdB G R4.length 3 = some y.2.2.2.1 := fun hk => ⟨rdI_of (hk.get hy6 ne4) rfl, rdI_of (hk.get hy6 ne4) rfl, rdI_of (hk.get hy6 ne4) rfl, rdB_of (hk.get hy6 ne4) rfl⟩
  have kr := Keep.refl (fun k => k = R5.length) R6
  obtain ⟨A1, a1, a2, a3⟩ := st 3 (.int .i64 0) kr hk6 (by simp [K])
  obtain ⟨A2, b1', b2', b3'⟩ := st 4 (.int .i64 x.2.1) a3 a2 (by simp [K])
  obtain ⟨A3, c1, c2, c3⟩ := st 5 (.int .i64 x.1) b3' b2' (by simp [K])
  have rx5 : rdI .i64 R5 R2.length 2 = some x.2.2.1 := rdI_of hx5 rfl
  have ry5 : rdI .i64 R5 R4.length 2 = some y.2.2.1 := rdI_of hy5 rfl
  have d1 : decide ((b1 : Int) = (b2 : Int)) = false := decide_eq_false (by omega)
  have d2 : decide ((b1 : Int) < 0) = false := decide_eq_false (by omega)
  have d3 : decide ((b2 : Int) < 0) = false := decide_eq_false (by omega)
  have d4 : decide ((a.B : Int) ≤ (b1 : Int)) = false := decide_eq_false (by omega)
  have d5 : decide ((a.B : Int) ≤ (b2 : Int)) = false := decide_eq_false (by omega)
  have qK : R5 ++ [Blk.cells [.ptr (some (a.c, 0)), .int .i64 (b1 : Int), .int .i64 (b2 : Int), .int .i64 0, .int .i64 0, .int .i64 0, .int .i64 x.2.2.1, .int .i64 y.2.2.1, .bool false] .exact] = R6 := rfl
  simp only [g1, bind_some, w, d1, d2, d3, cond_f, r0, d4, d5, x1, wx, decide_true, Bool.not_true, y1, wy, rx5, ry5, qK, (rx kr).1, (rx kr).2.1, a1, (rx a3).1, (rx a3).2.1, if_true, b1', (rx b3').1, c1]
  have hpick : ((rdB A3 R4.length 3).bind fun (v23 : Bool) => cond v23 ((rdB A3 R2.length 3).bind fun (v24 : Bool) => cond (!v24) (some ((true, ()), A3)) ((rdI .i64 A3 R4.length 0).bind fun (v25 : Int) => (rdI .i64 A3 R2.length 0).bind fun (v26 : Int) => some (((decide (v26 < v25)), ()), A3))) (some ((false, ()), A3)) : Option ((Bool × Unit) × Heap)) = some ((pickY x y, ()), A3) := by
    rw [(ry c3).2.2.2, (rx c3).2.2.2, (ry c3).1, (rx c3).1]
    unfold pickY
    cases y.2.2.2.1 <;> cases x.2.2.2.1 <;> rfl
  rw [hpick]
  simp only [bind_some]
  cases hpk : pickY x y with
  | false =>
    simp only [cond_f]
    refine ⟨A3, R5.length, rfl, n6.keep c3 (fun j hj e => own5 j hj e), ?_, ((k6.mono (G := fun k => k = R5.length) fun _ => False.elim).trans c3).new fun k hk hl => by omega, hl5⟩
    rw [c2]
    simp [K, openCells, hpk]
  | true =>
    obtain ⟨A4, e1, e2, e3⟩ := st 3 (.int .i64 1) c3 c2 (by simp [K])
    obtain ⟨A5, f1, f2, f3⟩ := st 4 (.int .i64 y.2.1) e3 e2 (by simp [K])
    obtain ⟨A6, h1, h2, h3⟩ := st 5 (.int .i64 y.1) f3 f2 (by simp [K])
    simp only [cond_t, (ry c3).2.1, (ry c3).1, bind_some, e1, (ry e3).2.1, (ry e3).1, if_true, f1, (ry f3).1, h1]
    refine ⟨A6, R5.length, rfl, n6.keep h3 (fun j hj e => own5 j hj e), ?_, ((k6.mono (G := fun k => k = R5.length) fun _ => False.elim).trans h3).new fun k hk hl => by omega, hl5⟩
    rw [h2]
    simp [K, openCells, hpk]

def openK (a : NdA) (s : Nd) : Ck :=
  let x := lookS a s 0 a.P
  let y := lookS a s 1 a.P
  { turn := if pickY x y = true then 1 else 0, next := (if pickY x y = true then y.2.1 else x.2.1).toNat, n := if pickY x y = true then y.1 else x.1, w := fun t => if t = 0 then x.2.2.1 else y.2.2.1, dead := false }
theorem look_next (b : Nat) : ∀ p, 0 ≤ (lookS a s b p).2.1 ∧ (lookS a s b p).2.1 ≤ (p : Int)
  | 0 => ⟨Int.le_refl _, Int.le_refl _⟩
  | p + 1 => by
    have ih := look_next b p
    simp only [lookS]
    split <;> (simp only; split <;> omega)
theorem open_at (h : NdAt H a s) (hB : 2 ≤ a.B) (ho : s.off = false) (f : Fine a s) (hP : a.P ≤ 1000) (hS : a.S ≤ 1000) :
    ∃ H' c, counter_Open (some (a.c, 0)) 0 1 H = some ((some (c, 0), 0, ()), H') ∧ NdAt H' a s ∧ CkAt H' c a (openK a s) ∧ Keep (fun _ => False) H H' ∧ H.length ≤ c := by
  obtain ⟨H', c, q1, q2, q3, q4, q5⟩ := open_yes h (b1 := 0) (b2 := 1) (by decide) (by omega) (by omega) ho f hP hS
  refine ⟨H', c, q1, q2, ⟨?_, ?_, fun hc => by have := h.own_lt hc; omega⟩, q4, q5⟩
  · rw [q3]
    have n0 := look_next (a := a) (s := s) 0 a.P
    have n1 := look_next (a := a) (s := s) 1 a.P
    simp only [openCells, Ck.cells, openK]
    cases pickY (lookS a s 0 a.P) (lookS a s 1 a.P) with
    | true => simp [Int.toNat_of_nonneg n1.1]
    | false => simp [Int.toNat_of_nonneg n0.1]
  · simp only [openK]
    split <;> decide
end
end Ev
