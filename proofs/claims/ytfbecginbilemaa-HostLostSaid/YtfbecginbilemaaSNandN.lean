/- A new chip; faults that come later. -/
import Derived.Test.YtfbecginbilemaaSNandH
namespace Ev
open Go (IntKind)

theorem rep_arr (n : Nat) (z : List C) : rep n z = arrC n (fun _ => z) := by
  unfold rep
  induction n with
  | zero => rfl
  | succ n ih =>
    rw [arrC, ← ih, List.replicate_succ']
    simp
theorem mkS_of {H : Heap} {bytes : Nat} {zero : List C} {n : Nat} (h : n * bytes ≤ 35184372088832) (h2 : n ≤ 35184372088832) : mkS H bytes zero (n : Int) (n : Int) = some (⟨some (H.length, 0), n, n⟩, H ++ [.cells (arrC n fun _ => zero) .exact]) := by
  unfold mkS
  have : decide (0 ≤ (n : Int) ∧ (n : Int) ≤ (n : Int) ∧ (n : Int).toNat * bytes ≤ maxRow ∧ (n : Int).toNat ≤ maxRow) = true := decide_eq_true ⟨by omega, by omega, by unfold maxRow; rw [Int.toNat_natCast]; exact h, by unfold maxRow; omega⟩
  rw [this, cond_t, Int.toNat_natCast, rep_arr]

/-- A chip at its beginning. -/
def Nd.new (cuts : List Cut) (fails bad : List Int) : Nd :=
  { pages := fun _ _ => [], worn := fun _ => 0, dead := fun i => decide ((i : Int) ∈ bad), mark := fun i => decide ((i : Int) ∈ bad), cuts := cuts, fails := fails, did := 0, off := false }

theorem new_no {g : Geo} {f : Sl × Sl × Sl × Unit} (H : Heap) (hg : geoOK g = false) : ∃ H', nand_New g f H = some ((none, 1, ()), H') ∧ Keep (fun _ => False) H H' := by
  unfold nand_New
  refine ⟨_, ?_, (Keep.push _ _ (.cells [.int .i64 g.1, .int .i64 g.2.1, .int .i64 g.2.2.1] .exact)).trans (Keep.push _ _ (.cells [.sl 3 f.1, .sl 1 f.2.1, .sl 1 f.2.2.1] .exact))⟩
  have r := rd_geo (H := (H ++ [Blk.cells [.int .i64 g.1, .int .i64 g.2.1, .int .i64 g.2.2.1] .exact]) ++ [Blk.cells [.sl 3 f.1, .sl 1 f.2.1, .sl 1 f.2.2.1] .exact]) (k := H.length) (g := g) (bk := .exact) (by rw [app_lt (by simp)]; exact app_last)
  have e : nand_Check (g.1, g.2.1, g.2.2.1, ()) = some (geoOK g, ()) := nand_Check_eq g
  simp only [r, bind_some, e, hg, Bool.not_false, cond_t]

def blk0 : List C := [.sl 1 Sl.nil, .int .i64 0, .bool false, .bool false]
def blk1 (L P : Nat) (bad : List Int) (i : Nat) : List C := [.sl 1 ⟨some (L + i, 0), P, P⟩, .int .i64 0, .bool (decide ((i : Int) ∈ bad)), .bool (decide ((i : Int) ∈ bad))]
theorem blkI_len (L P : Nat) (bad : List Int) (n : Nat) : ∀ i, (if i < n then blk1 L P bad i else blk0).length = 4 := by
  intro i; split <;> rfl

set_option maxHeartbeats 1000000 in
theorem new_loop {H H1 : Heap} {r15 : (Sl × Unit) × Heap} {G0 : Heap} {B P S : Nat} {bb : Nat} {cells : List C} {fb : Sl} {bad : List Int} (hB : B ≤ 4294967296) (hP : P ≤ 4294967296)
    (hc : G0[r15.2.length]? = some (.cells cells .exact)) (hc3 : cells[3]? = some (.sl 4 ⟨some (bb, 0), B, B⟩)) (hl : ∃ gcs bk, G0[H.length]? = some (.cells gcs bk) ∧ gcs[1]? = some (.int .i64 (P : Int)))
    (hf : ∃ fcs bk, G0[H1.length]? = some (.cells fcs bk) ∧ fcs[2]? = some (.sl 1 fb)) (hbad : Row G0 1 fb (intC bad)) (hbl : bad.length < 4611686018427387904) (hbb : G0[bb]? = some (.cells (arrC B fun _ => blk0) .exact))
    (n1 : r15.2.length ≠ bb) (n2 : H.length ≠ bb) (n3 : H1.length ≠ bb) (n4 : ∀ k o, fb.p = some (k, o) → k ≠ bb) :
    ∃ G, loopW (nand_New.s1 H H1 r15 ⟨some (bb, 0), B, B⟩) (0, ()) G0 = some ((), G) ∧ G[bb]? = some (.cells (arrC B (blk1 G0.length P bad)) .exact) ∧ (∀ i, i < B → G[G0.length + i]? = some (.cells (arrC P fun _ => [C.str []]) .exact)) ∧ Keep (fun k => k = bb) G0 G := by
  obtain ⟨y, G, l1, l2⟩ := loopW_run (step := nand_New.s1 H H1 r15 ⟨some (bb, 0), B, B⟩) (fun t G => ∃ i : Nat, i ≤ B ∧ t.1 = (i : Int) ∧ G.length = G0.length + i ∧ G[bb]? = some (.cells (arrC B fun j => if j < i then blk1 G0.length P bad j else blk0) .exact) ∧ (∀ j, j < i → G[G0.length + j]? = some (.cells (arrC P fun _ => [C.str []]) .exact)) ∧ Keep (fun k => k = bb) G0 G)
    (fun _ G => G[bb]? = some (.cells (arrC B (blk1 G0.length P bad)) .exact) ∧ (∀ i, i < B → G[G0.length + i]? = some (.cells (arrC P fun _ => [C.str []]) .exact)) ∧ Keep (fun k => k = bb) G0 G) (fun t _ => B - t.1.toNat)
    (by
      rintro ⟨j, u⟩ G ⟨i, hi, hj, hlen, hgb, hpg, hK⟩
      have hj : j = (i : Int) := hj
      subst hj
      have hbb0 := get_lt hbb
      unfold nand_New.s1
      by_cases hlt : i < B
      · have c3 : rdSl 4 G r15.2.length 3 = some ⟨some (bb, 0), B, B⟩ := rdSl_of (hK.get hc n1) hc3
        obtain ⟨gcs, gk, g1, g2⟩ := hl
        obtain ⟨fcs, fk, f1, f2⟩ := hf
        have cP : rdI .i64 G H.length 1 = some (P : Int) := rdI_of (hK.get g1 n2) g2
        have hat : Sl.at 4 ⟨some (bb, 0), B, B⟩ (i : Int) = some (bb, i * 4) := by rw [at_of (by omega) (by omega), Int.toNat_natCast, Nat.zero_add]
        have hbG := get_lt hgb
        -- pages
        let G1 : Heap := G ++ [.cells (arrC P fun _ => [C.str []]) .exact]
        have k1 : Keep (fun k => k = bb) G0 G1 := hK.trans (Keep.push _ _ _)
        have b1 : G1[bb]? = some (.cells (arrC B fun j => if j < i then blk1 G0.length P bad j else blk0) .exact) := by rw [app_lt hbG]; exact hgb
        have al := arrC_length (blkI_len G0.length P bad i) B
        have w1 : wr G1 bb (i * 4) [.sl 1 ⟨some (G0.length + i, 0), P, P⟩] = some (G1.set bb (.cells ((arrC B fun j => if j < i then blk1 G0.length P bad j else blk0).set (i * 4) (.sl 1 ⟨some (G0.length + i, 0), P, P⟩)) .exact)) :=
          wr1_of b1 (by decide) (by rw [al]; have := lt_mul (j := 0) hlt (show 0 < 4 by decide); omega)
        have k2 : Keep (fun k => k = bb) G0 (G1.set bb (.cells ((arrC B fun j => if j < i then blk1 G0.length P bad j else blk0).set (i * 4) (.sl 1 ⟨some (G0.length + i, 0), P, P⟩)) .exact)) := k1.trans (Keep.set _ _ _ rfl)
        have b2 := set_get (x := .cells ((arrC B fun j => if j < i then blk1 G0.length P bad j else blk0).set (i * 4) (.sl 1 ⟨some (G0.length + i, 0), P, P⟩)) .exact) (get_lt b1)
        have p2 : (G1.set bb (.cells ((arrC B fun j => if j < i then blk1 G0.length P bad j else blk0).set (i * 4) (.sl 1 ⟨some (G0.length + i, 0), P, P⟩)) .exact))[G0.length + i]? = some (.cells (arrC P fun _ => [C.str []]) .exact) := by
          rw [set_get' (by omega), ← hlen]; exact app_last
        have p2' : ∀ j, j < i → (G1.set bb (.cells ((arrC B fun j => if j < i then blk1 G0.length P bad j else blk0).set (i * 4) (.sl 1 ⟨some (G0.length + i, 0), P, P⟩)) .exact))[G0.length + j]? = some (.cells (arrC P fun _ => [C.str []]) .exact) := by
          intro j hj
          rw [set_get' (by omega), app_lt (by omega)]; exact hpg j hj
        have l2 : (G1.set bb (.cells ((arrC B fun j => if j < i then blk1 G0.length P bad j else blk0).set (i * 4) (.sl 1 ⟨some (G0.length + i, 0), P, P⟩)) .exact)).length = G0.length + (i + 1) := by
          simp [G1, hlen]; omega
        have a2 := arrC_set (blkI_len G0.length P bad i) (j := 0) (by decide) (.sl 1 ⟨some (G0.length + i, 0), P, P⟩) hlt
        rw [Nat.add_zero] at a2
        rw [a2] at w1 k2 b2 p2 p2' l2
        have mk : mkS G 16 [.str []] (P : Int) (P : Int) = some (⟨some (G0.length + i, 0), P, P⟩, G1) := by rw [mkS_of (by omega) (by omega), hlen]
        generalize hG2 : G1.set bb (.cells (arrC B fun k => if k = i then (if i < i then blk1 G0.length P bad i else blk0).set 0 (.sl 1 ⟨some (G0.length + i, 0), P, P⟩) else if k < i then blk1 G0.length P bad k else blk0) .exact) = G2 at w1 k2 b2 p2 p2' l2
        have c3' : rdSl 4 G2 r15.2.length 3 = some ⟨some (bb, 0), B, B⟩ := rdSl_of (k2.get hc n1) hc3
        have cb : rdSl 1 G2 H1.length 2 = some fb := rdSl_of (k2.get f1 n3) f2
        have hct := contains_eq (hbad.keep k2 fun b o hp => n4 b o hp) hbl (i : Int)
        have hf4 : ∀ k, (if k = i then (if i < i then blk1 G0.length P bad i else blk0).set 0 (.sl 1 ⟨some (G0.length + i, 0), P, P⟩) else if k < i then blk1 G0.length P bad k else blk0).length = 4 := by
          intro k; split
          · rw [if_neg (Nat.lt_irrefl i)]; rfl
          · exact blkI_len G0.length P bad i k
        -- mark
        have w3 := wr1_of (o := i * 4 + 3) (c := .bool (decide ((i : Int) ∈ bad))) b2 (by decide) (by rw [arrC_length hf4]; exact lt_mul hlt (by decide))
        rw [arrC_set hf4 (by decide) _ hlt] at w3
        have k3 := k2.trans (Keep.set (F := fun k => k = bb) G2 bb (.cells (arrC B fun k => if k = i then (if i = i then (if i < i then blk1 G0.length P bad i else blk0).set 0 (.sl 1 ⟨some (G0.length + i, 0), P, P⟩) else if i < i then blk1 G0.length P bad i else blk0).set 3 (.bool (decide ((i : Int) ∈ bad))) else (if k = i then (if i < i then blk1 G0.length P bad i else blk0).set 0 (.sl 1 ⟨some (G0.length + i, 0), P, P⟩) else if k < i then blk1 G0.length P bad k else blk0)) .exact) rfl)
        have b3 := set_get (x := .cells (arrC B fun k => if k = i then (if i = i then (if i < i then blk1 G0.length P bad i else blk0).set 0 (.sl 1 ⟨some (G0.length + i, 0), P, P⟩) else if i < i then blk1 G0.length P bad i else blk0).set 3 (.bool (decide ((i : Int) ∈ bad))) else (if k = i then (if i < i then blk1 G0.length P bad i else blk0).set 0 (.sl 1 ⟨some (G0.length + i, 0), P, P⟩) else if k < i then blk1 G0.length P bad k else blk0)) .exact) (get_lt b2)
        have ecng : (arrC B fun k => if k = i then (if i = i then (if i < i then blk1 G0.length P bad i else blk0).set 0 (.sl 1 ⟨some (G0.length + i, 0), P, P⟩) else if i < i then blk1 G0.length P bad i else blk0).set 3 (.bool (decide ((i : Int) ∈ bad))) else (if k = i then (if i < i then blk1 G0.length P bad i else blk0).set 0 (.sl 1 ⟨some (G0.length + i, 0), P, P⟩) else if k < i then blk1 G0.length P bad k else blk0))
            = arrC B fun k => if k = i then [.sl 1 ⟨some (G0.length + i, 0), P, P⟩, .int .i64 0, .bool false, .bool (decide ((i : Int) ∈ bad))] else if k < i then blk1 G0.length P bad k else blk0 := by
          refine arrC_congr fun k _ => ?_
          by_cases e : k = i
          · rw [if_pos e, if_pos e, if_pos rfl, if_neg (Nat.lt_irrefl i)]; rfl
          · rw [if_neg e, if_neg e, if_neg e]
        rw [ecng] at w3 k3 b3
        have p3 : ∀ j, j < i + 1 → (G2.set bb (.cells (arrC B fun k => if k = i then [.sl 1 ⟨some (G0.length + i, 0), P, P⟩, .int .i64 0, .bool false, .bool (decide ((i : Int) ∈ bad))] else if k < i then blk1 G0.length P bad k else blk0) .exact))[G0.length + j]? = some (.cells (arrC P fun _ => [C.str []]) .exact) := by
          intro j hj
          rw [set_get' (by omega)]
          by_cases e : j = i
          · rw [e]; exact p2
          · exact p2' j (by omega)
        have l3 : (G2.set bb (.cells (arrC B fun k => if k = i then [.sl 1 ⟨some (G0.length + i, 0), P, P⟩, .int .i64 0, .bool false, .bool (decide ((i : Int) ∈ bad))] else if k < i then blk1 G0.length P bad k else blk0) .exact)).length = G0.length + (i + 1) := by rw [List.length_set]; exact l2
        generalize hG3 : G2.set bb (.cells (arrC B fun k => if k = i then [.sl 1 ⟨some (G0.length + i, 0), P, P⟩, .int .i64 0, .bool false, .bool (decide ((i : Int) ∈ bad))] else if k < i then blk1 G0.length P bad k else blk0) .exact) = G3 at w3 k3 b3 p3 l3
        have c3'' : rdSl 4 G3 r15.2.length 3 = some ⟨some (bb, 0), B, B⟩ := rdSl_of (k3.get hc n1) hc3
        have hf5 : ∀ k, (if k = i then [C.sl 1 ⟨some (G0.length + i, 0), P, P⟩, .int .i64 0, .bool false, .bool (decide ((i : Int) ∈ bad))] else if k < i then blk1 G0.length P bad k else blk0).length = 4 := by
          intro k; split
          · rfl
          · exact blkI_len G0.length P bad i k
        have rb : rdB G3 bb (i * 4 + 3) = some (decide ((i : Int) ∈ bad)) := rdB_of b3 (by rw [arrC_get hf5 (by decide) hlt, if_pos rfl]; rfl)
        have w4 := wr1_of (o := i * 4 + 2) (c := .bool (decide ((i : Int) ∈ bad))) b3 (by decide) (by rw [arrC_length hf5]; exact lt_mul hlt (by decide))
        rw [arrC_set hf5 (by decide) _ hlt] at w4
        have efin : (arrC B fun k => if k = i then (if i = i then [C.sl 1 ⟨some (G0.length + i, 0), P, P⟩, .int .i64 0, .bool false, .bool (decide ((i : Int) ∈ bad))] else if i < i then blk1 G0.length P bad i else blk0).set 2 (.bool (decide ((i : Int) ∈ bad))) else (if k = i then [C.sl 1 ⟨some (G0.length + i, 0), P, P⟩, .int .i64 0, .bool false, .bool (decide ((i : Int) ∈ bad))] else if k < i then blk1 G0.length P bad k else blk0))
            = arrC B fun k => if k < i + 1 then blk1 G0.length P bad k else blk0 := by
          refine arrC_congr fun k _ => ?_
          by_cases e : k = i
          · subst e; rw [if_pos rfl, if_pos rfl, if_pos (by omega)]; rfl
          · rw [if_neg e, if_neg e]
            by_cases e2 : k < i
            · rw [if_pos e2, if_pos (by omega)]
            · rw [if_neg e2, if_neg (by omega)]
        rw [efin] at w4
        simp only [decide_eq_true (show (i : Int) < (B : Int) by omega), cond_t, c3, bind_some, cP, mk, hat, w1, c3', cb, hct, if_true, w3, c3'', rb, w4, Round, wrap_succ (show i < 9223372036854775807 by omega)]
        refine ⟨⟨i + 1, hlt, rfl, by rw [List.length_set]; exact l3, set_get (get_lt b3), fun j hj => ?_, k3.trans (Keep.set _ _ _ rfl)⟩, by simp; omega⟩
        rw [set_get' (by omega)]; exact p3 j hj
      · have : i = B := by omega
        subst this
        simp only [decide_eq_false (show ¬ ((i : Nat) : Int) < (i : Int) by omega), cond_f, Round]
        refine ⟨?_, hpg, hK⟩
        rw [hgb]
        congr 2
        exact arrC_congr fun k hk => by rw [if_pos hk]) (0, ()) G0 ⟨0, Nat.zero_le _, rfl, rfl, by rw [hbb]; simp, fun j hj => absurd hj (Nat.not_lt_zero _), Keep.refl _ _⟩
  exact ⟨G, l1, l2⟩
end Ev
