/- The laws of weaving: shapes, masks, erased bytes. -/
import Derived.Test.YtboamjjdpmaikaaGLaw29
import Derived.Test.YtboamjjdpmaikaaSRef27
import Derived.Test.YtboamjjdpmaikaaSWeaveG
import Derived.Test.YtboamjjdpmaikaaEvOpen
namespace Ev
open Go (IntKind)

theorem rowNil (H : Heap) : Row H 1 ⟨none, 0, 0⟩ (intC []) := nil_row H 1
theorem sh_wr {H : Heap} {b : Nat} {a1 a2 a3 a4 z1 z2 z3 z4 : Int} (h : H[b]? = some (Blk.cells [.int .i64 z1, .int .i64 z2, .int .i64 z3, .int .i64 z4] .exact)) : ∃ G, wr H b 0 [.int .i64 a1, .int .i64 a2, .int .i64 a3, .int .i64 a4] = some G ∧ G[b]? = some (Blk.cells [.int .i64 a1, .int .i64 a2, .int .i64 a3, .int .i64 a4] .exact) ∧ Keep (fun j => j = b) H G :=
  ⟨_, wr_of h (by decide) (Nat.le_refl 4), set_get (get_lt h), Keep.set _ _ _ rfl⟩
theorem shOK_of {s P : Nat} (h0 : 1 ≤ s) (h1 : s ≤ 1024) (h2 : 2 ≤ P) (h3 : P ≤ 32) : ShOK s P (shW s P) (dat s (shW s P)) := ⟨h0, h1, h2, h3, rfl, rfl⟩
theorem awake29_eq : law29_awake = some (true, ()) := by
  have hok : ShOK ([48, 49, 50, 51, 52, 53, 54, 55, 56, 57] : Bytes).length 2 1 10 := ⟨by decide, by decide, by decide, by decide, by decide, by decide⟩
  have hs : weave_ShapeOf 10 2 = some (shT 1 10 2 12, true, ()) := shapeOf_ok (s := 10) (P := 2) (by decide) (by decide) (by decide) (by decide)
  obtain ⟨H3, w1, w2, w3⟩ := sh_wr (a1 := 1) (a2 := 10) (a3 := 2) (a4 := 12) (show (([] : Heap) ++ [Blk.cells [.int .i64 0, .int .i64 0, .int .i64 0, .int .i64 0] .exact])[0]? = some (Blk.cells [.int .i64 0, .int .i64 0, .int .i64 0, .int .i64 0] .exact) from rfl)
  obtain ⟨q1, _, _, _⟩ := sh_at w2
  have hen : weave_Encode [48, 49, 50, 51, 52, 53, 54, 55, 56, 57] (1, 10, 2, 12, ()) 5 = some (rawF [48, 49, 50, 51, 52, 53, 54, 55, 56, 57] 1 2 5, 0, ()) := wencode_eq hok 5
  have hrl : (rawF [48, 49, 50, 51, 52, 53, 54, 55, 56, 57] 1 2 5).length = 12 := rawF_len _ _ _ _
  generalize hraw : rawF [48, 49, 50, 51, 52, 53, 54, 55, 56, 57] 1 2 5 = raw at hen hrl
  have la : LAt (H3 ++ [Blk.cells (cellsOf raw) .loose]) H3.length 12 (co raw) := by
    unfold LAt
    rw [app_last, ← cells_pl, ← hrl, pl_co]
  have g1 := la.get (i := 3) (by decide)
  obtain ⟨H10, a1, a2, a3⟩ := la.set (i := 3) (by decide) (co raw 3 ^^^ 9)
  have hset : LAt H10 H3.length 12 (co (raw.set 3 (co raw 3 ^^^ 9))) := a2.congr fun k hk => by
    rw [co_set]
    by_cases e : k = 3
    · rw [if_pos e, if_pos ⟨e, by omega⟩]
    · rw [if_neg e, if_neg fun h => e h.1]
  have hstr : strOf H10 ⟨some (H3.length, 0), 12, 12⟩ = some (raw.set 3 (co raw 3 ^^^ 9)) := by
    unfold strOf
    rw [hset.poly.row.row]
    have : pl 12 (co (raw.set 3 (co raw 3 ^^^ 9))) = raw.set 3 (co raw 3 ^^^ 9) := by
      rw [show 12 = (raw.set 3 (co raw 3 ^^^ 9)).length by rw [List.length_set, hrl], pl_co]
    rw [this]; exact bytes_of_cells _
  have h0lt : 0 < H3.length := get_lt w2
  have hsh10 : H10[0]? = _ := a3.get ((Keep.push (fun _ => False) H3 (Blk.cells (cellsOf raw) .loose)).get w2 id) (fun h => by have : 0 = H3.length := h; omega)
  obtain ⟨q2, _, _, _⟩ := sh_at hsh10
  have hcnt : (cN 12 fun k => co (raw.set 3 (co raw 3 ^^^ 9)) k != co raw k) = 1 := by
    have h1 := dfc_one (s := raw) (i := 3) (x := 9) (by omega) (by decide)
    have h2 : (cN 12 fun k => co raw k != co (raw.set 3 (co raw 3 ^^^ 9)) k) = 1 := by
      unfold cN
      rw [← hrl, h1]; rfl
    rw [← h2]
    exact cN_congr fun k _ => bne_comm
  obtain ⟨G, k1, d1⟩ := wback (rowNil H10) (by show 0 < 100000; omega) (s := [48, 49, 50, 51, 52, 53, 54, 55, 56, 57]) (raw2 := raw.set 3 (co raw 3 ^^^ 9)) hok 5 (by rw [List.length_set, hrl]; rfl) (fun _ => false) (fun k _ => ⟨fun h => absurd h (by decide), fun h => absurd h List.not_mem_nil⟩) (fun n hn => by
    have : n = 0 := by omega
    subst this
    rw [hraw]
    have hz : (cN (wl (([48, 49, 50, 51, 52, 53, 54, 55, 56, 57] : Bytes).length + 1 * 2) 1 0) fun _ => false) = 0 := by
      unfold cN
      rw [List.filter_eq_nil_iff.2 fun k _ => by decide]; rfl
    have hy : (cN (wl (([48, 49, 50, 51, 52, 53, 54, 55, 56, 57] : Bytes).length + 1 * 2) 1 0) fun k => co (raw.set 3 (co raw 3 ^^^ 9)) (0 + k * 1) != co raw (0 + k * 1) && !false) = 1 := by
      refine Eq.trans ?_ hcnt
      show cN 12 _ = _
      exact cN_congr fun k _ => by rw [Nat.mul_one, Nat.zero_add, Bool.not_false, Bool.and_true]
    rw [hz, hy]; decide)
  rw [hraw] at d1
  have d1' : weave_Decode (raw.set 3 (co raw 3 ^^^ 9)) (1, 10, 2, 12, ()) 5 ⟨none, 0, 0⟩ H10 = some (([48, 49, 50, 51, 52, 53, 54, 55, 56, 57], ((cN 12 fun k => co (raw.set 3 (co raw 3 ^^^ 9)) k != co raw k : Nat) : Int), 0, ()), G) := d1
  rw [hcnt] at d1'
  unfold law29_awake law29_awake.on
  have hat : Sl.at 1 ⟨some (H3.length, 0), 12, 12⟩ 3 = some (H3.length, 3) := BAt.at (i := 3) (by decide)
  have w1' : wr (([] : Heap) ++ [Blk.cells [.int .i64 0, .int .i64 0, .int .i64 0, .int .i64 0] .exact]) ([] : Heap).length 0 [.int .i64 1, .int .i64 10, .int .i64 2, .int .i64 12] = some H3 := w1
  have hx9 : bitsI .xor .u8 (un (co raw 3)) 9 = un (co raw 3 ^^^ 9) := un_xor (co raw 3) 9
  rw [hs]
  simp only [bind_some, shT]
  have w1'' : wr (([] : Heap) ++ [Blk.cells [.int .i64 0, .int .i64 0, .int .i64 0, .int .i64 0] .exact]) ([] : Heap).length 0 [.int .i64 ((1 : Nat) : Int), .int .i64 ((10 : Nat) : Int), .int .i64 ((2 : Nat) : Int), .int .i64 ((12 : Nat) : Int)] = some H3 := w1
  rw [w1'']
  simp only [bind_some, List.length_nil, q1, hen, Bool.not_true, cond_f, decide_true, hrl, show decide (((12 : Nat) : Int) = 12) = true from rfl, hat, g1, hx9, a1, hstr, q2, d1', cond_t]
  rfl
/-! Shapes. -/
theorem refShape_ok {s P : Nat} (h0 : 1 ≤ s) (h1 : s ≤ 1024) (h2 : 2 ≤ P) (h3 : P ≤ 32) : ref29_Shape (s : Int) (P : Int) = some (shF s P, true, ()) := by
  obtain ⟨w1, w2, w3, w4⟩ := shW_ok h1 h3
  unfold shF
  generalize shW s P = W at w1 w2 w3 w4
  have hP : ∀ n, n ≤ 11 → n * P ≤ 352 := fun n hn => Nat.mul_le_mul hn h3
  have inner : ∀ (n : Nat) (G : Heap), 1 ≤ n → n ≤ 11 → loopW (ref29_Shape.s1 (s : Int) ((n : Int), ())) (0, ()) G = some ((((dat s n : Nat) : Int), ()), G) := fun n G hn hn2 => by
    have hb := dat_bd n hn h1
    exact loop_for' (dat s n) (fun i => ((i : Int), ())) (fun _ => G) rfl rfl (fun i hi => by
      have hlt : i * n < s := by
        have h5 : ¬ s ≤ i * n := fun h => by
          have h6 := dat_lt s n hn
          have h7 : (i + 1) * n ≤ dat s n * n := Nat.mul_le_mul_right n hi
          rw [Nat.succ_mul] at h7
          omega
        omega
      have hw : IntKind.wrap .i64 ((i : Int) * (n : Int)) = ((i * n : Nat) : Int) := by rw [← Int.natCast_mul, wrap_i64 (by omega) (by omega)]
      unfold ref29_Shape.s1
      simp only [hw, decide_eq_true (show ((i * n : Nat) : Int) < (s : Int) by omega), cond_t, wrap_succ (show i < 9223372036854775807 by omega)]) (by
      have hle := dat_le s n hn
      have hlt := dat_lt s n hn
      have hw : IntKind.wrap .i64 (((dat s n : Nat) : Int) * (n : Int)) = ((dat s n * n : Nat) : Int) := by rw [← Int.natCast_mul, wrap_i64 (by omega) (by omega)]
      unfold ref29_Shape.s1
      simp only [hw, decide_eq_false (show ¬ ((dat s n * n : Nat) : Int) < (s : Int) by omega), cond_f])
  obtain ⟨x, G, l1, rfl, hG⟩ := loop_rise (step := ref29_Shape.s2 (s : Int) (P : Int) []) (W - 1) (fun i y G => G = [Blk.cells [.int .i64 0, .int .i64 0, .int .i64 0, .int .i64 0] .exact] ∧ y = (((i + 1 : Nat) : Int), ())) (fun x G => x = .inr (true, ()) ∧ G[0]? = some (Blk.cells [.int .i64 (W : Int), .int .i64 ((dat s W : Nat) : Int), .int .i64 (P : Int), .int .i64 ((s + W * P : Nat) : Int)] .exact))
    (by
      rintro i _ G hi ⟨rfl, rfl⟩
      left
      have hd := w4 (i + 1) (by omega) (by omega)
      have hb := dat_bd (i + 1) (by omega) h1
      refine ⟨_, _, ?_, rfl, rfl⟩
      unfold ref29_Shape.s2
      simp only [decide_eq_true (show ((i + 1 : Nat) : Int) < 1025 by omega), cond_t, inner (i + 1) _ (by omega) (by omega), bind_some, wrap_i64 (n := ((dat s (i + 1) : Nat) : Int) + (P : Int)) (by omega) (by omega), decide_eq_false (show ¬ ((dat s (i + 1) : Nat) : Int) + (P : Int) ≤ 127 by omega), cond_f, wrap_succ (show i + 1 < 9223372036854775807 by omega)])
    (by
      rintro _ G ⟨rfl, rfl⟩
      have hb := dat_bd W w1 h1
      have hW : W - 1 + 1 = W := by omega
      have := hP W w2
      have hR : IntKind.wrap .i64 ((s : Int) + (IntKind.wrap .i64 ((W : Int) * (P : Int)))) = ((s + W * P : Nat) : Int) := by
        rw [← Int.natCast_mul, wrap_i64 (n := ((W * P : Nat) : Int)) (by omega) (by omega), wrap_i64 (by omega) (by omega)]; omega
      obtain ⟨G2, a1, a2, _⟩ := sh_wr (a1 := (W : Int)) (a2 := ((dat s W : Nat) : Int)) (a3 := (P : Int)) (a4 := ((s + W * P : Nat) : Int)) (show ([Blk.cells [.int .i64 0, .int .i64 0, .int .i64 0, .int .i64 0] .exact] : Heap)[0]? = some (Blk.cells [.int .i64 0, .int .i64 0, .int .i64 0, .int .i64 0] .exact) from rfl)
      refine ⟨.inr (true, ()), G2, ?_, rfl, a2⟩
      rw [hW]
      unfold ref29_Shape.s2
      simp only [decide_eq_true (show (W : Int) < 1025 by omega), cond_t, inner W _ w1 w2, bind_some, wrap_i64 (n := ((dat s W : Nat) : Int) + (P : Int)) (by omega) (by omega), decide_eq_true (show ((dat s W : Nat) : Int) + (P : Int) ≤ 127 by omega), hR, List.length_nil, a1])
    (y := (((0 + 1 : Nat) : Int), ())) (H := [Blk.cells [.int .i64 0, .int .i64 0, .int .i64 0, .int .i64 0] .exact]) ⟨rfl, rfl⟩
  have l1' : loopW (ref29_Shape.s2 (s : Int) (P : Int) []) (1, ()) ([] ++ [Blk.cells [.int .i64 0, .int .i64 0, .int .i64 0, .int .i64 0] .exact]) = some (.inr (true, ()), G) := l1
  obtain ⟨q1, _, _, _⟩ := sh_at hG
  unfold ref29_Shape ref29_Shape.on
  simp only [decide_eq_false (show ¬ (s : Int) < 1 by omega), decide_eq_false (show ¬ (1024 : Int) < (s : Int) by omega), decide_eq_false (show ¬ (P : Int) < 2 by omega), decide_eq_false (show ¬ (32 : Int) < (P : Int) by omega), cond_f, l1', bind_some, sumR, List.length_nil, q1]
  rfl
theorem refShape_no {s P : Int} (h : s < 1 ∨ 1024 < s ∨ P < 2 ∨ 32 < P) : ref29_Shape s P = some (shT 0 0 0 0, false, ()) := by
  unfold ref29_Shape ref29_Shape.on
  by_cases c1 : s < 1
  · rw [decide_eq_true c1]; rfl
  rw [decide_eq_false c1]
  by_cases c2 : 1024 < s
  · rw [decide_eq_true c2]; rfl
  rw [decide_eq_false c2]
  by_cases c3 : P < 2
  · rw [decide_eq_true c3]; rfl
  rw [decide_eq_false c3, decide_eq_true (show 32 < P by omega)]; rfl
theorem shapes_fin (x0 x1 : Int) (sh : Sh) (b : Bool) (h1 : weave_ShapeOf x0 x1 = some (sh, b, ())) (h2 : ref29_Shape x0 x1 = some (sh, b, ())) : law29_WeaveShapes x0 x1 = some (true, ()) := by
  obtain ⟨a1, a2, a3, a4, _⟩ := sh
  obtain ⟨H3, w1, w2, w3⟩ := sh_wr (a1 := a1) (a2 := a2) (a3 := a3) (a4 := a4) (show (([] : Heap) ++ [Blk.cells [.int .i64 0, .int .i64 0, .int .i64 0, .int .i64 0] .exact])[0]? = some (Blk.cells [.int .i64 0, .int .i64 0, .int .i64 0, .int .i64 0] .exact) from rfl)
  obtain ⟨H6, v1, v2, v3⟩ := sh_wr (H := H3 ++ [Blk.cells [.int .i64 0, .int .i64 0, .int .i64 0, .int .i64 0] .exact]) (b := H3.length) (a1 := a1) (a2 := a2) (a3 := a3) (a4 := a4) app_last
  have h0lt : 0 < H3.length := get_lt w2
  have u1 := v3.get ((Keep.push (fun _ => False) H3 (Blk.cells [.int .i64 0, .int .i64 0, .int .i64 0, .int .i64 0] .exact)).get w2 id) (fun h => by have : 0 = H3.length := h; omega)
  obtain ⟨q1, _, _, _⟩ := sh_at u1
  obtain ⟨q2, _, _, _⟩ := sh_at v2
  unfold law29_WeaveShapes law29_WeaveShapes.on
  simp only [h1, bind_some, List.length_nil, w1, h2, v1, awake29_eq, cond_t, beq_self_eq_true, q1, q2, decide_true, Bool.and_self]
theorem WeaveShapes_true (x0 x1 : Int) (_ : wfC (.int .i64 x0)) (_ : wfC (.int .i64 x1)) : law29_WeaveShapes x0 x1 = some (true, ()) := by
  by_cases h : x0 < 1 ∨ 1024 < x0 ∨ x1 < 2 ∨ 32 < x1
  · exact shapes_fin x0 x1 _ _ (shapeOf_no h) (refShape_no h)
  · obtain ⟨s, rfl⟩ : ∃ s : Nat, x0 = (s : Int) := ⟨x0.toNat, by omega⟩
    obtain ⟨P, rfl⟩ : ∃ P : Nat, x1 = (P : Int) := ⟨x1.toNat, by omega⟩
    exact shapes_fin _ _ _ _ (shapeOf_ok (by omega) (by omega) (by omega) (by omega)) (refShape_ok (by omega) (by omega) (by omega) (by omega))

/-! Masks. -/
theorem refMask_bits {x : Nat} (hx : x < 65536) (H : Heap) : loopW ref29_Mask.s1 ((x : Int), 0, ()) H = some ((((lfN 8 x : Nat) : Int), ()), H) :=
  loop_for' 8 (fun i => (((lfN i x : Nat) : Int), (i : Int), ())) (fun _ => H) rfl rfl (fun i hi => by
    have hl := lfN_lt hx i
    have htm : Int.tmod ((lfN i x : Nat) : Int) 2 = ((lfN i x % 2 : Nat) : Int) := rfl
    have htd : IntKind.wrap .u64 (Int.tdiv ((lfN i x : Nat) : Int) 2) = ((lfN i x / 2 : Nat) : Int) := by
      rw [show Int.tdiv ((lfN i x : Nat) : Int) 2 = ((lfN i x / 2 : Nat) : Int) from rfl, wrap_u64]; omega
    unfold ref29_Mask.s1
    simp only [decide_eq_true (show (i : Int) < 8 by omega), cond_t, htm, htd, wrap_succ (show i < 9223372036854775807 by omega)]
    rw [lfN, lf]
    by_cases hb : lfN i x % 2 = 1
    · have h2 : bitsI .xor .u64 ((lfN i x / 2 : Nat) : Int) 46080 = ((lfN i x / 2 ^^^ 46080 : Nat) : Int) := xor_nat (k := .u64) (b := 46080) rfl (by show lfN i x / 2 < 2 ^ 64; omega) (by decide)
      rw [decide_eq_true (show ((lfN i x % 2 : Nat) : Int) = 1 by omega), cond_t, if_pos hb, h2]
    · rw [decide_eq_false (show ¬ ((lfN i x % 2 : Nat) : Int) = 1 by omega), cond_f, if_neg hb, Nat.xor_zero]) (by
    unfold ref29_Mask.s1
    simp only [decide_eq_false (show ¬ ((8 : Nat) : Int) < 8 by omega), cond_f])
theorem rstart (x : Int) : bitsI .xor .u64 (Int.tmod (IntKind.wrap .u64 ((IntKind.wrap .u64 (IntKind.wrap .u16 x)) * 40503)) 65536) 44257 = ((mseed x : Nat) : Int) := by
  have h : Int.tmod (IntKind.wrap .u64 ((IntKind.wrap .u64 (IntKind.wrap .u16 x)) * 40503)) 65536 = (((x % 65536).toNat * 40503 % 65536 : Nat) : Int) := by
    rw [wrap_u16, wrap_u64, wrap_u64, Int.tmod_eq_emod_of_nonneg (by omega)]; omega
  rw [h]
  exact xor_nat (k := .u64) (b := 44257) rfl (by show _ < 2 ^ 64; have := Nat.mod_lt ((x % 65536).toNat * 40503) (show 0 < 65536 by decide); omega) (by decide)
theorem str_grown {H G : Heap} {s : Sl} {p : Bytes} (g : GrowN H G 1 s (cellsOf p)) : strOf G s = some p := by
  unfold strOf
  rw [g.row.row]; exact bytes_of_cells p
theorem pl_snoc (n : Nat) (f : Nat → UInt8) : cellsOf (pl (n + 1) f) = cellsOf (pl n f) ++ [.int .u8 (un (f n))] := by rw [cells_pl, cells_pl, arrC]
theorem refMask_eq (x k : Int) (hk : k < 1000000) : ref29_Mask x k = some (maskF x k.toNat, ()) := by
  unfold ref29_Mask ref29_Mask.on
  have hst : (cond (decide ((bitsI .xor .u64 (Int.tmod (IntKind.wrap .u64 ((IntKind.wrap .u64 (IntKind.wrap .u16 x)) * 40503)) 65536) 44257) = 0)) (some (((44257 : Int), ()), ([] : Heap))) (some (((bitsI .xor .u64 (Int.tmod (IntKind.wrap .u64 ((IntKind.wrap .u64 (IntKind.wrap .u16 x)) * 40503)) 65536) 44257), ()), [])) : Option ((Int × Unit) × Heap)) = some ((((mstart x : Nat) : Int), ()), []) := by
    rw [rstart]
    unfold mstart
    by_cases h : mseed x = 0
    · rw [if_pos h, decide_eq_true (by omega)]; rfl
    · rw [if_neg h, decide_eq_false (by omega)]; rfl
  rw [hst]
  obtain ⟨y, G, l1, t, rfl, ht, g⟩ := loop_rise (step := ref29_Mask.s2 k) k.toNat (fun i y G => ∃ t, y = (((lfN (8 * i) (mstart x) : Nat) : Int), t, (i : Int), ()) ∧ t.len = i ∧ GrowN [] G 1 t (cellsOf (pl i (mkB x)))) (fun y G => ∃ t, y = (t, ()) ∧ t.len = k.toNat ∧ GrowN [] G 1 t (cellsOf (pl k.toNat (mkB x))))
    (by
      rintro i _ G hi ⟨t, rfl, ht, g⟩
      left
      have hl := lfN_lt (mstart_lt x) (8 * i)
      have hm := refMask_bits hl G
      rw [lfN_add] at hm
      have hl8 := lfN_lt (mstart_lt x) (8 * i + 8)
      have hb : IntKind.wrap .u8 (Int.tmod ((lfN (8 * i + 8) (mstart x) : Nat) : Int) 256) = un (mkB x i) := by
        rw [show Int.tmod ((lfN (8 * i + 8) (mstart x) : Nat) : Int) 256 = ((lfN (8 * i + 8) (mstart x) % 256 : Nat) : Int) from rfl, un_ofNat]
        unfold mkB
        rw [show 8 * (i + 1) = 8 * i + 8 by omega]
        refine congrArg un (u8_ext ?_)
        rw [UInt8.toNat_ofNat', UInt8.toNat_ofNat']; omega
      obtain ⟨t', G2, b1, b2, b3, b4, _⟩ := g.one (bytes := 1) (new := [.int .u8 (un (mkB x i))]) (by decide) rfl (by omega) (by omega)
      rw [← pl_snoc] at b3
      refine ⟨(((lfN (8 * (i + 1)) (mstart x) : Nat) : Int), t', ((i + 1 : Nat) : Int), ()), G2, ?_, t', rfl, by omega, b3⟩
      unfold ref29_Mask.s2
      simp only [decide_eq_true (show (i : Int) < k by omega), cond_t, hm, bind_some, hb, b1, b2, wrap_succ (show i < 9223372036854775807 by omega)]
      rfl)
    (by
      rintro _ G ⟨t, rfl, ht, g⟩
      refine ⟨(t, ()), G, ?_, t, rfl, ht, g⟩
      unfold ref29_Mask.s2
      simp only [decide_eq_false (show ¬ ((k.toNat : Nat) : Int) < k by omega), cond_f])
    (y := (((lfN (8 * 0) (mstart x) : Nat) : Int), ⟨some (([] : Heap).length, 0), 0, 0⟩, ((0 : Nat) : Int), ())) (H := [] ++ [Blk.cells [] .exact]) ⟨_, rfl, rfl, GrowN.em (Keep.refl _ _) 1⟩
  have l1' : loopW (ref29_Mask.s2 k) (((mstart x : Nat) : Int), ⟨some (([] : Heap).length, 0), 0, 0⟩, 0, ()) ([] ++ [Blk.cells [] .exact]) = some ((t, ()), G) := l1
  simp only [bind_some, l1', str_grown g]
  rfl
theorem WeaveMasks_true (x0 x1 : Int) (x2 : Bytes) (_ : wfC (.int .i64 x0)) (_ : wfC (.int .i64 x1)) (_ : x2.length ≤ 140737488351232) : law29_WeaveMasks x0 x1 x2 = some (true, ()) := by
  obtain ⟨k, hk, hk1, hk2⟩ : ∃ k : Nat, (if (100 : Int) < (x2.length : Int) then (100 : Int) else (x2.length : Int)) = (k : Int) ∧ k ≤ x2.length ∧ k ≤ 100 := by
    by_cases h : (100 : Int) < (x2.length : Int)
    · exact ⟨100, if_pos h, by omega, by omega⟩
    · exact ⟨x2.length, if_neg h, by omega, by omega⟩
  have s1 := sub_of (s := x2) (lo := 0) (hi := k) (by omega) hk1
  rw [List.drop_zero] at s1
  have s1' : subS x2 0 (k : Int) = some (x2.take k) := s1
  have hl : (x2.take k).length = k := by rw [List.length_take]; omega
  generalize x2.take k = s at s1' hl
  have htm : Int.tmod x1 300 < 300 := Int.tmod_lt_of_pos x1 (by decide)
  have hms := mask_eq x0 (s.length : Int) (by omega)
  rw [Int.toNat_natCast] at hms
  have m1 : weave_Mix s (maskF x0 s.length) = some (mixF s (maskF x0 s.length), ()) := mix_eq _ _ (by omega) (by rw [maskF_len]; omega)
  have hml : (mixF s (maskF x0 s.length)).length = s.length := by rw [mixF_len, maskF_len, Nat.min_self]
  have m2 : weave_Mix (mixF s (maskF x0 s.length)) (maskF x0 s.length) = some (s, ()) := by
    rw [mix_eq _ _ (by omega) (by rw [maskF_len]; omega), mixF_twice (maskF_len _ _).symm]
  have m3 : weave_Mix s [97, 98] = some (mixF s [97, 98], ()) := mix_eq _ _ (by omega) (by show 2 < 1000000; omega)
  have hl3 : ((mixF s [97, 98]).length : Int) = (if (2 : Int) < (s.length : Int) then 2 else (s.length : Int)) := by
    rw [mixF_len]
    show ((min s.length 2 : Nat) : Int) = _
    split <;> omega
  unfold law29_WeaveMasks law29_WeaveMasks.on
  simp only [hk, s1', bind_some, mask_eq x0 (Int.tmod x1 300) (by omega), hms, awake29_eq, cond_t, refMask_eq x0 (Int.tmod x1 300) (by omega), decide_true, m1, m2, m3, hl3]

/-! Erased bytes. -/
def zc (c : Nat) : Nat → Nat
  | 0 => 0
  | j + 1 => zc c j + (if c / 2 ^ j % 2 = 0 then 1 else 0)
theorem zc_pc : ∀ c, c < 256 → zc c 8 = pc 9 (c ^^^ 255) := by decide +kernel
theorem zc_le (c : Nat) : ∀ j, zc c j ≤ j
  | 0 => Nat.le_refl 0
  | j + 1 => by
    have := zc_le c j
    rw [zc]
    split <;> omega
theorem WeaveErased_true (x0 : Bytes) (x1 : Int) (_ : x0.length ≤ 140737488351232) (_ : wfC (.int .i64 x1)) : law29_WeaveErased x0 x1 = some (true, ()) := by
  obtain ⟨k, hk, hk1, hk2⟩ : ∃ k : Nat, (if (100 : Int) < (x0.length : Int) then (100 : Int) else (x0.length : Int)) = (k : Int) ∧ k ≤ x0.length ∧ k ≤ 100 := by
    by_cases h : (100 : Int) < (x0.length : Int)
    · exact ⟨100, if_pos h, by omega, by omega⟩
    · exact ⟨x0.length, if_neg h, by omega, by omega⟩
  have s1 := sub_of (s := x0) (lo := 0) (hi := k) (by omega) hk1
  rw [List.drop_zero] at s1
  have s1' : subS x0 0 (k : Int) = some (x0.take k) := s1
  have hl : (x0.take k).length = k := by rw [List.length_take]; omega
  generalize x0.take k = s at s1' hl
  have l1 : loopW (law29_WeaveErased.s2 s) (0, 0, ()) [] = some ((((zbs s : Nat) : Int), ()), []) := loop_for' s.length (fun i => (((zbs (s.take i) : Nat) : Int), (i : Int), ())) (fun _ => []) rfl rfl (fun i hi => by
      have hz := zbs_le (s.take i)
      rw [List.length_take] at hz
      have hidx : idxS s (i : Int) = some (un (co s i)) := by rw [idx_of hi, co_lt hi]
      have hin : loopW (law29_WeaveErased.s1 s (((zbs (s.take i) : Nat) : Int), (i : Int), ())) (((zbs (s.take i) : Nat) : Int), 0, ()) [] = some ((((zbs (s.take i) + zc (co s i).toNat 8 : Nat) : Int), ()), []) := loop_for' 8 (fun j => (((zbs (s.take i) + zc (co s i).toNat j : Nat) : Int), (j : Int), ())) (fun _ => []) rfl rfl (fun j hj => by
          have hzl := zc_le (co s i).toNat j
          have hu : IntKind.wrap .u64 (j : Int) = (j : Int) := by rw [wrap_u64]; omega
          have hmin : min (Int.toNat (j : Int)) (IntKind.bits .u8) = j := by
            rw [Int.toNat_natCast]
            exact Nat.min_eq_left (by show j ≤ 8; omega)
          have htm : Int.tmod (Int.fdiv (un (co s i)) (2 ^ j)) 2 = (((co s i).toNat / 2 ^ j % 2 : Nat) : Int) := by
            show Int.tmod (Int.fdiv (((co s i).toNat : Nat) : Int) (2 ^ j)) 2 = _
            rw [shr_nat, Nat.shiftRight_eq_div_pow]; rfl
          unfold law29_WeaveErased.s1
          simp only [decide_eq_true (show (j : Int) < 8 by omega), cond_t, hidx, bind_some, hu, decide_eq_false (show ¬ (j : Int) < 0 by omega), cond_f, hmin, htm, wrap_succ (show j < 9223372036854775807 by omega), wrap_succ (show zbs (s.take i) + zc (co s i).toNat j < 9223372036854775807 by omega)]
          rw [zc]
          by_cases h0 : (co s i).toNat / 2 ^ j % 2 = 0
          · rw [if_pos h0, decide_eq_true (show (((co s i).toNat / 2 ^ j % 2 : Nat) : Int) = 0 by rw [h0]; rfl), cond_t]; rfl
          · rw [if_neg h0, decide_eq_false (show ¬ (((co s i).toNat / 2 ^ j % 2 : Nat) : Int) = 0 from fun h => h0 (by exact_mod_cast h)), cond_f]; rfl) (by
          unfold law29_WeaveErased.s1
          simp only [decide_eq_false (show ¬ ((8 : Nat) : Int) < 8 by omega), cond_f])
      unfold law29_WeaveErased.s2
      simp only [decide_eq_true (show (i : Int) < (s.length : Int) by omega), cond_t, hin, bind_some, wrap_succ (show i < 9223372036854775807 by omega)]
      rw [List.take_succ_eq_append_getElem hi, zbs_snoc, ← co_lt hi, zc_pc _ (co s i).toNat_lt]; rfl) (by
      unfold law29_WeaveErased.s2
      simp only [decide_eq_false (show ¬ ((s.length : Nat) : Int) < (s.length : Int) by omega), cond_f, List.take_length])
  unfold law29_WeaveErased law29_WeaveErased.on
  simp only [hk, s1', bind_some, l1, awake29_eq, cond_t, erased_eq s _ (show s.length < 1000000 by omega), beq_self_eq_true]
end Ev
