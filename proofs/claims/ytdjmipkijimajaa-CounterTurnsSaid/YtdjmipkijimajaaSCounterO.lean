/- The counter: what is found in a block; Open. -/
import Derived.Test.YtdjmipkijimajaaSCounter
namespace Ev
open Go (IntKind)

abbrev One := Int × Int × Int × Bool × Unit
def oneB (x : One) : Blk := .cells [.int .i64 x.1, .int .i64 x.2.1, .int .i64 x.2.2.1, .bool x.2.2.2.1] .exact
def one0 : One := (0, 0, 0, false, ())
/-- What is found in the first pages of a block. -/
def lookS (a : NdA) (s : Nd) (b : Nat) : Nat → One
  | 0 => one0
  | p + 1 =>
    let x := lookS a s b p
    let v := viewB a (s.read a b p)
    let next : Int := if v.1 = 0 then x.2.1 else ((p + 1 : Nat) : Int)
    match numV v with
    | some (m, w) => (if m > x.1 then m else x.1, next, if w > x.2.2.1 then w else x.2.2.1, true, ())
    | none => (x.1, next, x.2.2.1, x.2.2.2.1, ())

theorem rd_1c {H : Heap} {k : Nat} {x : One} (h : H[k]? = some (oneB x)) : @Eq (Option One) (rd H (.agg [.int .i64, .int .i64, .int .i64, .bool]) k 0) (some x) := by
  refine rd_agg_of h (by simp) ?_
  simp [Tup.un, CT.un]
  rfl

section
variable {H : Heap} {a : NdA} {s : Nd}

theorem Fine.len {b p : Nat} (f : Fine a s) : s.pages b p = [] ∨ (s.pages b p).length = a.S + 32 := by
  rcases f b p with h | h
  · exact .inl h
  · exact .inr h.1

theorem view_tag (v : Int × Tg × Bytes × Unit) (d sp : Bytes) (h : v = lookP d sp) : 0 ≤ v.2.1.2.1 ∧ v.2.1.2.1 < 18446744073709551616 := by
  subst h
  unfold lookP
  split
  · simp [tag0]
  · split
    · exact tagOf_seq sp
    · simp [tag0]

set_option maxHeartbeats 1000000 in
theorem look_loop {H0 : Heap} {R : Heap} {b : Nat} (hb : b < a.B) (ho : s.off = false) (f : Fine a s) (hP : a.P ≤ 1000) (hS : a.S ≤ 1000) (h : NdAt R a s) (hn : ∀ k, a.own k → k ≠ H.length ∧ k ≠ H0.length) (h0 : H.length < R.length) (hx : R[H0.length]? = some (oneB one0)) (hne : H.length ≠ H0.length) {r3 : ((Geo × Unit) × Heap)} (hr : r3.1.1.2.1 = (a.P : Int)) :
    ∃ G, loopW (counter_look.s1 (some (a.c, 0)) (b : Int) H H0 r3) (0, ()) R = some (.inl (), G) ∧ NdAt G a s ∧ G[H0.length]? = some (oneB (lookS a s b a.P)) ∧ Keep (fun k => k = H0.length) R G := by
  obtain ⟨y, G, l1, rfl, l2, l3, l4⟩ := loopW_run (step := counter_look.s1 (some (a.c, 0)) (b : Int) H H0 r3) (fun t G => ∃ i : Nat, i ≤ a.P ∧ t.1 = (i : Int) ∧ NdAt G a s ∧ G[H0.length]? = some (oneB (lookS a s b i)) ∧ Keep (fun k => k = H0.length) R G)
    (fun y G => y = .inl () ∧ NdAt G a s ∧ G[H0.length]? = some (oneB (lookS a s b a.P)) ∧ Keep (fun k => k = H0.length) R G) (fun t _ => a.P - t.1.toNat)
    (by
      rintro ⟨j, u⟩ G ⟨i, hi, hj, hG, hxG, hK⟩
      have hj : j = (i : Int) := hj
      subst hj
      unfold counter_look.s1
      rw [hr]
      by_cases hlt : i < a.P
      · obtain ⟨G1, g1, g2, g3⟩ := nand_read hG (b := b) (p := i) ho hb hlt f.len
        have hrl := f.read b i
        have hv := page_Look_eq ((s.read a b i).take a.S) ((s.read a b i).drop a.S) (by rw [List.length_take]; omega) (by rw [List.length_drop]; omega)
        have hseq := view_tag (lookP ((s.read a b i).take a.S) ((s.read a b i).drop a.S)) _ _ rfl
        have hvv : lookP ((s.read a b i).take a.S) ((s.read a b i).drop a.S) = viewB a (s.read a b i) := rfl
        rw [hvv] at hv hseq
        -- the tag's block
        let v := viewB a (s.read a b i)
        let G2 : Heap := G1 ++ [tagB v.2.1]
        have wT : wr (G1 ++ [Blk.cells [.int .i64 0, .int .u64 0, .int .i64 0, .int .i64 0, .int .i64 0] .exact]) G1.length 0 [.int .i64 v.2.1.1, .int .u64 v.2.1.2.1, .int .i64 v.2.1.2.2.1, .int .i64 v.2.1.2.2.2.1, .int .i64 v.2.1.2.2.2.2.1] = some G2 := by
          rw [wr_last (by decide) (by simp)]; rfl
        have wT' : wr (G1 ++ [Blk.cells [.int .i64 0, .int .u64 0, .int .i64 0, .int .i64 0, .int .i64 0] .exact]) G1.length 0 [.int .i64 (viewB a (s.read a b i)).2.1.1, .int .u64 (viewB a (s.read a b i)).2.1.2.1, .int .i64 (viewB a (s.read a b i)).2.1.2.2.1, .int .i64 (viewB a (s.read a b i)).2.1.2.2.2.1, .int .i64 (viewB a (s.read a b i)).2.1.2.2.2.2.1] = some G2 := wT
        have hx1 : G1[H0.length]? = some (oneB (lookS a s b i)) := g3.get hxG id
        have hx2 : G2[H0.length]? = some (oneB (lookS a s b i)) := by rw [app_lt (get_lt hx1)]; exact hx1
        have nG2 : NdAt G2 a s := g2.push _
        have kG2 : Keep (fun k => k = H0.length) R G2 := (hK.trans (g3.mono fun _ => False.elim)).trans (Keep.push _ _ _)
        have hne1 : G1.length ≠ H0.length := fun e => by have := get_lt hx1; omega
        have hT2 : G2[G1.length]? = some (tagB v.2.1) := app_last
        -- 'next'
        let nx : Int := if v.1 = 0 then (lookS a s b i).2.1 else ((i + 1 : Nat) : Int)
        let x1 : One := ((lookS a s b i).1, nx, (lookS a s b i).2.2.1, (lookS a s b i).2.2.2.1, ())
        have e1 : ∃ G3, (cond (!decide (v.1 = 0)) ((wr G2 H0.length 1 [.int .i64 ((i + 1 : Nat) : Int)]).bind fun (H11 : Heap) => some ((()), H11)) (some ((()), G2)) : Option ((Unit) × Heap)) = some ((), G3) ∧ NdAt G3 a s ∧ G3[H0.length]? = some (oneB x1) ∧ G3[G1.length]? = some (tagB v.2.1) ∧ Keep (fun k => k = H0.length) R G3 := by
          by_cases hc : v.1 = 0
          · rw [decide_eq_true hc]
            refine ⟨G2, rfl, nG2, ?_, hT2, kG2⟩
            rw [hx2]
            simp only [x1, nx, if_pos hc]
          · have hw := wr1_of (o := 1) (c := .int .i64 ((i + 1 : Nat) : Int)) hx2 (by decide) (by simp)
            have hk : Keep (fun k => k = H0.length) G2 (G2.set H0.length (oneB x1)) := Keep.set _ _ _ rfl
            have hb1 : (Blk.cells ([C.int .i64 (lookS a s b i).1, .int .i64 (lookS a s b i).2.1, .int .i64 (lookS a s b i).2.2.1, .bool (lookS a s b i).2.2.2.1].set 1 (.int .i64 ((i + 1 : Nat) : Int))) .exact) = oneB x1 := by
              simp only [x1, nx, if_neg hc]; rfl
            rw [hb1] at hw
            refine ⟨G2.set H0.length (oneB x1), by rw [decide_eq_false hc, hw]; rfl, nG2.keep hk (fun j hj e => (hn j hj).2 e), set_get (get_lt hx2), ?_, kG2.trans hk⟩
            rw [set_get' (fun e => hne1 e.symm)]; exact hT2
        obtain ⟨G3, c1, c2, c3, c4, c5⟩ := e1
        have rk : rdI .i64 G3 G1.length 0 = some v.2.1.1 := rdI_of c4 rfl
        have rs : rdI .u64 G3 G1.length 1 = some v.2.1.2.1 := rdI_of c4 rfl
        have e2 : (cond (decide (v.1 = 1)) ((rdI .i64 G3 G1.length 0).bind fun (v13 : Int) => cond (decide (v13 = 1)) ((rdI .u64 G3 G1.length 1).bind fun (v14 : Int) => some (((decide (v14 ≤ 1073741824)), ()), G3)) (some ((false, ()), G3))) (some ((false, ()), G3)) : Option ((Bool × Unit) × Heap)) = some ((decide (v.1 = 1 ∧ v.2.1.1 = 1 ∧ v.2.1.2.1 ≤ 1073741824), ()), G3) := by
          rw [rk, rs]
          by_cases h1 : v.1 = 1
          · by_cases h2 : v.2.1.1 = 1
            · simp [h1, h2]
            · simp [h1, h2]
          · simp [h1]
        simp only [decide_eq_true (show (i : Int) < (a.P : Int) by omega), cond_t, g1, bind_some, decide_true, Bool.not_true, cond_f, hv, wT', wrap_succ (show i < 9223372036854775807 by omega)]
        have c1' : (cond (!decide ((viewB a (s.read a b i)).1 = 0)) ((wr G2 H0.length 1 [.int .i64 ((i + 1 : Nat) : Int)]).bind fun (H11 : Heap) => some ((()), H11)) (some ((()), G2)) : Option ((Unit) × Heap)) = some ((), G3) := c1
        have e2' : (cond (decide ((viewB a (s.read a b i)).1 = 1)) ((rdI .i64 G3 G1.length 0).bind fun (v13 : Int) => cond (decide (v13 = 1)) ((rdI .u64 G3 G1.length 1).bind fun (v14 : Int) => some (((decide (v14 ≤ 1073741824)), ()), G3)) (some ((false, ()), G3))) (some ((false, ()), G3)) : Option ((Bool × Unit) × Heap)) = some ((decide (v.1 = 1 ∧ v.2.1.1 = 1 ∧ v.2.1.2.1 ≤ 1073741824), ()), G3) := e2
        rw [c1', bind_some]
        simp only [e2', bind_some]
        by_cases hnum : v.1 = 1 ∧ v.2.1.1 = 1 ∧ v.2.1.2.1 ≤ 1073741824
        · have hnV : numV (viewB a (s.read a b i)) = some (v.2.1.2.1, v.2.1.2.2.2.2.1) := if_pos hnum
          have hsq : IntKind.wrap .i64 v.2.1.2.1 = v.2.1.2.1 := wrap_i64 (by have := hseq.1; show -9223372036854775808 ≤ (viewB a (s.read a b i)).2.1.2.1; omega) (by omega)
          let m' : Int := if v.2.1.2.1 > x1.1 then v.2.1.2.1 else x1.1
          let w' : Int := if v.2.1.2.2.2.2.1 > x1.2.2.1 then v.2.1.2.2.2.2.1 else x1.2.2.1
          have q1 : rdI .i64 G3 H0.length 0 = some x1.1 := rdI_of c3 rfl
          have wa := wr1_of (o := 0) (c := .int .i64 m') c3 (by decide) (by simp)
          have da := set_get (x := Blk.cells ([C.int .i64 x1.1, .int .i64 x1.2.1, .int .i64 x1.2.2.1, .bool x1.2.2.2.1].set 0 (.int .i64 m')) .exact) (get_lt c3)
          have wb := wr1_of (o := 3) (c := .bool true) da (by decide) (by simp)
          have db := set_get (x := Blk.cells (([C.int .i64 x1.1, .int .i64 x1.2.1, .int .i64 x1.2.2.1, .bool x1.2.2.2.1].set 0 (.int .i64 m')).set 3 (.bool true)) .exact) (get_lt da)
          have kab : Keep (fun k => k = H0.length) G3 ((G3.set H0.length (Blk.cells ([C.int .i64 x1.1, .int .i64 x1.2.1, .int .i64 x1.2.2.1, .bool x1.2.2.2.1].set 0 (.int .i64 m')) .exact)).set H0.length (Blk.cells (([C.int .i64 x1.1, .int .i64 x1.2.1, .int .i64 x1.2.2.1, .bool x1.2.2.2.1].set 0 (.int .i64 m')).set 3 (.bool true)) .exact)) := Keep.trans (F := fun k => k = H0.length) (Keep.set _ _ _ rfl) (Keep.set _ _ _ rfl)
          have q2 : rdI .i64 ((G3.set H0.length (Blk.cells ([C.int .i64 x1.1, .int .i64 x1.2.1, .int .i64 x1.2.2.1, .bool x1.2.2.2.1].set 0 (.int .i64 m')) .exact)).set H0.length (Blk.cells (([C.int .i64 x1.1, .int .i64 x1.2.1, .int .i64 x1.2.2.1, .bool x1.2.2.2.1].set 0 (.int .i64 m')).set 3 (.bool true)) .exact)) H0.length 2 = some x1.2.2.1 := rdI_of db rfl
          have t4 := kab.get c4 hne1
          have q3 : rdI .i64 ((G3.set H0.length (Blk.cells ([C.int .i64 x1.1, .int .i64 x1.2.1, .int .i64 x1.2.2.1, .bool x1.2.2.2.1].set 0 (.int .i64 m')) .exact)).set H0.length (Blk.cells (([C.int .i64 x1.1, .int .i64 x1.2.1, .int .i64 x1.2.2.1, .bool x1.2.2.2.1].set 0 (.int .i64 m')).set 3 (.bool true)) .exact)) G1.length 4 = some v.2.1.2.2.2.2.1 := rdI_of t4 rfl
          have wc := wr1_of (o := 2) (c := .int .i64 w') db (by decide) (by simp)
          have kc := kab.trans (Keep.set (F := fun k => k = H0.length) ((G3.set H0.length (Blk.cells ([C.int .i64 x1.1, .int .i64 x1.2.1, .int .i64 x1.2.2.1, .bool x1.2.2.2.1].set 0 (.int .i64 m')) .exact)).set H0.length (Blk.cells (([C.int .i64 x1.1, .int .i64 x1.2.1, .int .i64 x1.2.2.1, .bool x1.2.2.2.1].set 0 (.int .i64 m')).set 3 (.bool true)) .exact)) H0.length (Blk.cells ((([C.int .i64 x1.1, .int .i64 x1.2.1, .int .i64 x1.2.2.1, .bool x1.2.2.2.1].set 0 (.int .i64 m')).set 3 (.bool true)).set 2 (.int .i64 w')) .exact) rfl)
          have dc := set_get (x := Blk.cells ((([C.int .i64 x1.1, .int .i64 x1.2.1, .int .i64 x1.2.2.1, .bool x1.2.2.2.1].set 0 (.int .i64 m')).set 3 (.bool true)).set 2 (.int .i64 w')) .exact) (get_lt db)
          simp only [decide_eq_true hnum, cond_t, q1, bind_some, rs, hsq]
          have wa' : wr G3 H0.length 0 [.int .i64 (if v.2.1.2.1 > x1.1 then v.2.1.2.1 else x1.1)] = some (G3.set H0.length (Blk.cells ([C.int .i64 x1.1, .int .i64 x1.2.1, .int .i64 x1.2.2.1, .bool x1.2.2.2.1].set 0 (.int .i64 m')) .exact)) := wa
          simp only [wa', bind_some, wb, q2, q3]
          have wc' : wr ((G3.set H0.length (Blk.cells ([C.int .i64 x1.1, .int .i64 x1.2.1, .int .i64 x1.2.2.1, .bool x1.2.2.2.1].set 0 (.int .i64 m')) .exact)).set H0.length (Blk.cells (([C.int .i64 x1.1, .int .i64 x1.2.1, .int .i64 x1.2.2.1, .bool x1.2.2.2.1].set 0 (.int .i64 m')).set 3 (.bool true)) .exact)) H0.length 2 [.int .i64 (if v.2.1.2.2.2.2.1 > x1.2.2.1 then v.2.1.2.2.2.2.1 else x1.2.2.1)] = _ := wc
          simp only [wc', bind_some, Round]
          refine ⟨⟨i + 1, hlt, rfl, c2.keep kc (fun j hj e => (hn j hj).2 e), ?_, c5.trans kc⟩, by simp; omega⟩
          rw [dc]
          simp only [lookS, hnV]
          rfl
        · have hnV : numV (viewB a (s.read a b i)) = none := if_neg hnum
          simp only [decide_eq_false hnum, cond_f, Round]
          refine ⟨⟨i + 1, hlt, rfl, c2, ?_, c5⟩, by simp; omega⟩
          rw [c3]
          simp only [lookS, hnV]
          rfl
      · have : i = a.P := by omega
        subst this
        simp only [decide_eq_false (show ¬ ((a.P : Nat) : Int) < (a.P : Int) by omega), cond_f, Round]
        exact ⟨trivial, hG, hxG, hK⟩) (0, ()) R ⟨0, Nat.zero_le _, rfl, h, hx, Keep.refl _ _⟩
  exact ⟨G, l1, l2, l3, l4⟩

theorem look_eq {b : Nat} (h : NdAt H a s) (hb : b < a.B) (ho : s.off = false) (f : Fine a s) (hP : a.P ≤ 1000) (hS : a.S ≤ 1000) : ∃ H', counter_look (some (a.c, 0)) (b : Int) H = some ((lookS a s b a.P, 0, ()), H') ∧ NdAt H' a s ∧ Keep (fun _ => False) H H' := by
  let H1 : Heap := H ++ [oneB one0]
  let H2 : Heap := H1 ++ [oneB one0]
  have e1 : H1.length = H.length + 1 := by simp [H1]
  have e2 : H2.length = H.length + 2 := by simp [H2, H1]
  have n2 : NdAt H2 a s := (h.push _).push _
  obtain ⟨R, g1, g2, g3⟩ := nand_geometry n2
  have hr0 : H2[H.length]? = some (oneB one0) := by rw [app_lt (by omega)]; exact app_last
  have hr1 : H2[H1.length]? = some (oneB one0) := app_last
  have hRl := g3.len
  obtain ⟨G, l1, l2, l3, l4⟩ := look_loop (H := H) (H0 := H1) (R := R) hb ho f hP hS g2 (fun k hk => by have := h.own_lt hk; omega) (by omega) (g3.get hr1 id) (by omega) (r3 := ((((a.B : Int), (a.P : Int), (a.S : Int), ()), ()), R)) rfl
  have rz : G[H.length]? = some (oneB one0) := l4.get (g3.get hr0 id) (by omega)
  have wz : wr G H.length 0 [.int .i64 (lookS a s b a.P).1, .int .i64 (lookS a s b a.P).2.1, .int .i64 (lookS a s b a.P).2.2.1, .bool (lookS a s b a.P).2.2.2.1] = some (G.set H.length (oneB (lookS a s b a.P))) := by
    rw [wr_of rz (by decide) (by simp)]; rfl
  have kk : Keep (fun k => k = H.length ∨ k = H1.length) H (G.set H.length (oneB (lookS a s b a.P))) := by
    have ka : Keep (fun k => k = H.length ∨ k = H1.length) H H2 := (Keep.push _ _ _).trans (Keep.push _ _ _)
    exact ((ka.trans (g3.mono fun _ => False.elim)).trans (l4.mono fun _ => .inr)).trans (Keep.set _ _ _ (.inl rfl))
  refine ⟨G.set H.length (oneB (lookS a s b a.P)), ?_, l2.keep (Keep.set (F := fun k => k = H.length) _ _ _ rfl) (fun j hj e => by have := h.own_lt hj; omega), kk.new fun k hk hl => by rcases hk with e | e <;> omega⟩
  unfold counter_look
  have q : H ++ [Blk.cells [.int .i64 0, .int .i64 0, .int .i64 0, .bool false] .exact] = H1 := rfl
  have q2 : H1 ++ [Blk.cells [.int .i64 0, .int .i64 0, .int .i64 0, .bool false] .exact] = H2 := rfl
  simp only [q, q2, g1, bind_some, l1, sum0, rd_1c l3, wz, rd_1c (set_get (x := oneB (lookS a s b a.P)) (get_lt rz))]
end
end Ev
