/- The chip: New, Arm, Dead, Worn, Geometry, and no chip. -/
import Derived.Test.YtloijdlakkmjgaaSNandG
namespace Ev
open Go (IntKind)

abbrev Geo := Int × Int × Int × Unit
def geoOK (g : Geo) : Bool := decide (8 ≤ g.1 ∧ g.1 ≤ 32 ∧ 4 ≤ g.2.1 ∧ g.2.1 ≤ 16 ∧ 64 ≤ g.2.2.1 ∧ g.2.2.1 ≤ 256)
theorem nand_Check_eq (g : Geo) : nand_Check g = some (geoOK g, ()) := by
  obtain ⟨x, y, z, u⟩ := g
  have r0 : ∀ a b c, rdI .i64 [Blk.cells [.int .i64 a, .int .i64 b, .int .i64 c] .exact] 0 0 = some a := fun _ _ _ => rfl
  have r1 : ∀ a b c, rdI .i64 [Blk.cells [.int .i64 a, .int .i64 b, .int .i64 c] .exact] 0 1 = some b := fun _ _ _ => rfl
  have r2 : ∀ a b c, rdI .i64 [Blk.cells [.int .i64 a, .int .i64 b, .int .i64 c] .exact] 0 2 = some c := fun _ _ _ => rfl
  unfold nand_Check nand_Check.on geoOK
  simp only [List.nil_append, List.length_nil, r0, r1, r2, bind_some]
  by_cases h1 : 8 ≤ x
  · by_cases h2 : x ≤ 32
    · by_cases h3 : 4 ≤ y
      · by_cases h4 : y ≤ 16
        · by_cases h5 : 64 ≤ z
          · by_cases h6 : z ≤ 256 <;> simp [h1, h2, h3, h4, h5, h6]
          · simp [h1, h2, h3, h4, h5]
        · simp [h1, h2, h3, h4]
      · simp [h1, h2, h3]
    · simp [h1, h2]
  · simp [h1]

section
variable {H : Heap} {a : NdA} {s : Nd}

/-- The cells of a slice that tells something of each block. -/
theorem nand_worn (h : NdAt H a s) : ∃ t H', nand_Chip_Worn (some (a.c, 0)) H = some ((t, ()), H') ∧ Row H' 1 t (arrC a.B fun i => [.int .i64 (s.worn i)]) ∧ NdAt H' a s ∧ Keep (fun _ => False) H H' := by
  have hsz := h.sz
  unfold nand_Chip_Worn
  obtain ⟨x, G, l1, l2⟩ := loopW_run (step := nand_Chip_Worn.s1 ⟨some (a.bb, 0), a.B, a.B⟩) (fun t G => ∃ i : Nat, i ≤ a.B ∧ t.2.1 = (i : Int) ∧ t.1.len = i ∧ Grown G 1 t.1 (arrC i fun i => [.int .i64 (s.worn i)]) ∧ NdAt G a s ∧ Keep (fun _ => False) H G ∧ ∀ x, t.1.p = some x → H.length ≤ x.1)
    (fun x G => Grown G 1 x.1 (arrC a.B fun i => [.int .i64 (s.worn i)]) ∧ NdAt G a s ∧ Keep (fun _ => False) H G) (fun t _ => a.B - t.2.1.toNat)
    (by
      rintro ⟨t, j, u⟩ G ⟨i, hi, hj, hl, hg, hG, hK, hb⟩
      have hj : j = (i : Int) := hj
      subst hj
      have hg : Grown G 1 t (arrC i fun i => [.int .i64 (s.worn i)]) := hg
      have hl : t.len = i := hl
      have hb : ∀ x, t.p = some x → H.length ≤ x.1 := hb
      unfold nand_Chip_Worn.s1
      by_cases hlt : i < a.B
      · simp only [decide_eq_true (show (i : Int) < (a.B : Int) by omega), cond_t, NdAt.atb i hlt, bind_some, hG.rblk hlt]
        have w1 : wr (G ++ [Blk.cells [.sl 1 Sl.nil, .int .i64 0, .bool false, .bool false] .exact]) G.length 0 [.sl 1 ⟨some (a.pb i, 0), a.P, a.P⟩, .int .i64 (s.worn i), .bool (s.dead i), .bool (s.mark i)] = some (G ++ [Blk.cells [.sl 1 ⟨some (a.pb i, 0), a.P, a.P⟩, .int .i64 (s.worn i), .bool (s.dead i), .bool (s.mark i)] .exact]) := by
          rw [wr_last (by decide) (by simp)]; rfl
        have r1 : rdI .i64 (G ++ [Blk.cells [.sl 1 ⟨some (a.pb i, 0), a.P, a.P⟩, .int .i64 (s.worn i), .bool (s.dead i), .bool (s.mark i)] .exact]) G.length 1 = some (s.worn i) := rdI_of app_last rfl
        simp only [w1, bind_some, r1]
        have g2 := (hg.push (Blk.cells [.sl 1 ⟨some (a.pb i, 0), a.P, a.P⟩, .int .i64 (s.worn i), .bool (s.dead i), .bool (s.mark i)] .exact)).push (Blk.cells [.int .i64 (s.worn i)] .exact)
        have hG2 := (hG.push (Blk.cells [.sl 1 ⟨some (a.pb i, 0), a.P, a.P⟩, .int .i64 (s.worn i), .bool (s.dead i), .bool (s.mark i)] .exact)).push (Blk.cells [.int .i64 (s.worn i)] .exact)
        have hK2 := (hK.trans (Keep.push _ _ (Blk.cells [.sl 1 ⟨some (a.pb i, 0), a.P, a.P⟩, .int .i64 (s.worn i), .bool (s.dead i), .bool (s.mark i)] .exact))).trans (Keep.push _ _ (Blk.cells [.int .i64 (s.worn i)] .exact))
        rw [row_last (by rfl), bind_some]
        obtain ⟨a1, a2⟩ := g2.app (bytes := 8) (by decide) (n := 1) (new := [.int .i64 (s.worn i)]) (by decide) rfl (by omega) (by omega)
        rw [a1, bind_some]
        simp only [wrap_succ (show i < 9223372036854775807 by omega), Round]
        generalize (G ++ [Blk.cells [.sl 1 ⟨some (a.pb i, 0), a.P, a.P⟩, .int .i64 (s.worn i), .bool (s.dead i), .bool (s.mark i)] .exact]) ++ [Blk.cells [.int .i64 (s.worn i)] .exact] = G2 at a2 hG2 hK2
        have hnot : ∀ k, k < H.length → ∀ x, t.p = some x → x.1 ≠ k := fun k hk x hx e => by have := hb x hx; omega
        have hown : ∀ k, a.own k → k < H.length := fun k hk => h.own_lt hk
        refine ⟨⟨i + 1, hlt, rfl, by simp [hl], by rw [arrC]; exact a2, ?_, ⟨by rw [grownH_length]; have := hK2.len; omega, fun k hk _ => ?_⟩, ?_⟩, by simp; omega⟩
        · refine hG2.keep (F := fun k => H.length ≤ k) ⟨by rw [grownH_length]; omega, fun k hk hf => grownH_get hk (hnot k (by omega))⟩ fun k hk => by have := hown k hk; omega
        · rw [grownH_get (Nat.lt_of_lt_of_le hk hK2.len) (hnot k hk)]; exact hK2.same k hk id
        · intro x hx
          cases hx
          exact hK2.len
      · have : i = a.B := by omega
        subst this
        simp only [decide_eq_false (show ¬ ((a.B : Nat) : Int) < (a.B : Int) by omega), cond_f, Round]
        exact ⟨hg, hG, hK⟩) (⟨none, 0, 0⟩, 0, ()) H ⟨0, Nat.zero_le _, rfl, rfl, Grown.ni H 1, h, Keep.refl _ _, fun x hx => by cases hx⟩
  refine ⟨x.1, G, ?_, Row.grown l2.1, l2.2⟩
  simp only [Option.isNone_some, cond_f, bind_some, Nat.zero_add, h.rbb, l1]

theorem rd_geo {H : Heap} {k : Nat} {g : Geo} {bk : BK} (h : H[k]? = some (.cells [.int .i64 g.1, .int .i64 g.2.1, .int .i64 g.2.2.1] bk)) : @Eq (Option Geo) (rd H (.agg [.int .i64, .int .i64, .int .i64]) k 0) (some g) := by
  refine rd_agg_of h (by simp) ?_
  simp [Tup.un, CT.un]
  rfl
theorem nand_geometry (h : NdAt H a s) : ∃ H', nand_Chip_Geometry (some (a.c, 0)) H = some ((((a.B : Int), (a.P : Int), (a.S : Int), ()), ()), H') ∧ NdAt H' a s ∧ Keep (fun _ => False) H H' := by
  unfold nand_Chip_Geometry
  have h1 := h.push (Blk.cells [.int .i64 0, .int .i64 0, .int .i64 0] .exact)
  have w1 : wr (H ++ [Blk.cells [.int .i64 0, .int .i64 0, .int .i64 0] .exact]) H.length 0 [.int .i64 (a.B : Int), .int .i64 (a.P : Int), .int .i64 (a.S : Int)] = some (H ++ [Blk.cells [.int .i64 (a.B : Int), .int .i64 (a.P : Int), .int .i64 (a.S : Int)] .exact]) := by
    rw [wr_last (by decide) (by simp)]; rfl
  refine ⟨H ++ [Blk.cells [.int .i64 (a.B : Int), .int .i64 (a.P : Int), .int .i64 (a.S : Int)] .exact], ?_, h.push _, Keep.push _ _ _⟩
  simp only [Option.isNone_some, cond_f, bind_some, h1.rgeo, w1, rd_geo (g := ((a.B : Int), (a.P : Int), (a.S : Int), ())) app_last]
end

/-! No chip. -/
theorem geometry_nil (H : Heap) : ∃ H', nand_Chip_Geometry none H = some (((0, 0, 0, ()), ()), H') ∧ Keep (fun _ => False) H H' := by
  unfold nand_Chip_Geometry
  have w1 : wr (H ++ [Blk.cells [.int .i64 0, .int .i64 0, .int .i64 0] .exact]) H.length 0 [.int .i64 0, .int .i64 0, .int .i64 0] = some (H ++ [Blk.cells [.int .i64 0, .int .i64 0, .int .i64 0] .exact]) := by
    rw [wr_last (by decide) (by decide)]; rfl
  refine ⟨_, ?_, Keep.push _ _ (Blk.cells [.int .i64 0, .int .i64 0, .int .i64 0] .exact)⟩
  simp only [Option.isNone_none, cond_t, w1, bind_some, rd_geo (g := (0, 0, 0, ())) app_last]
end Ev
