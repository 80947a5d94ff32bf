/- The laws of weaving: bursts, bytes that are lost. -/
import Derived.Test.YtboamjjdpmaikaaSLaw29b
namespace Ev
open Go (IntKind)

theorem rows_bytes : ∀ (rows : List (Tup [.int .u8])), (∀ x ∈ rows, ∀ c ∈ Tup.mk [.int .u8] x, wfC c) → ∃ b : Bytes, rowsOf [.int .u8] rows = cellsOf b ∧ b.length = rows.length
  | [], _ => ⟨[], rfl, rfl⟩
  | x :: r, h => by
    obtain ⟨b, h1, h2⟩ := rows_bytes r fun y hy => h y (List.mem_cons_of_mem _ hy)
    obtain ⟨v, u⟩ := x
    change Int at v
    have hv : 0 ≤ v ∧ v ≤ 255 := h _ (List.mem_cons_self ..) (.int .u8 v) (by simp [Tup.mk, CT.mk])
    obtain ⟨c, rfl⟩ := u8_of hv.1 hv.2
    refine ⟨c :: b, ?_, by show b.length + 1 = r.length + 1; rw [h2]⟩
    show Tup.mk [.int .u8] (un c, u) ++ rowsOf [.int .u8] r = _
    rw [h1]; rfl
theorem came_bytes {B H : Heap} {s : Sl} (h : Came [.int .u8] B s H) : ∃ b : Bytes, PAt H s b := by
  obtain ⟨rows, h1, h2, h3, h4⟩ := came_rows h
  obtain ⟨b, h5, h6⟩ := rows_bytes rows h3
  rw [h5] at h1
  refine ⟨b, ⟨h1, ?_⟩⟩
  rcases h with ⟨rfl, _⟩ | ⟨len, rows, rfl, hl, _, _, _⟩
  · exact Nat.le_refl 0
  · exact hl
theorem sh250 : shF 250 8 = shT 3 84 8 274 := by decide +kernel
theorem ok250 {s : Bytes} (h : s.length = 250) : ShOK s.length 8 3 84 := by
  rw [h]; exact ⟨by decide, by decide, by decide, by decide, by decide +kernel, by decide +kernel⟩
/-- A place in the middle. -/
theorem mid_pick (x : Int) (n : Nat) (hn : n < 274) (hn0 : 0 < n) : ∃ k : Nat, k < 274 - n ∧ Int.tmod (IntKind.wrap .i64 ((IntKind.wrap .i64 ((Int.tmod x (IntKind.wrap .i64 (((274 : Nat) : Int) - (n : Int)))) + ((274 : Nat) : Int))) - (n : Int))) (IntKind.wrap .i64 (((274 : Nat) : Int) - (n : Int))) = (k : Int) := by
  have hw : IntKind.wrap .i64 (((274 : Nat) : Int) - (n : Int)) = ((274 - n : Nat) : Int) := by rw [wrap_i64 (by omega) (by omega)]; omega
  have h1 := Int.tmod_lt_of_pos x (show (0 : Int) < ((274 - n : Nat) : Int) by omega)
  have h2 : -((274 - n : Nat) : Int) < Int.tmod x ((274 - n : Nat) : Int) := Int.lt_tmod_of_pos x (show (0 : Int) < ((274 - n : Nat) : Int) by omega)
  obtain ⟨k, k1, k2⟩ := tmod_pick x (274 - n) (by omega) (by omega)
  refine ⟨k, k1, ?_⟩
  rw [hw]
  generalize Int.tmod x ((274 - n : Nat) : Int) = y at *
  rw [wrap_i64 (by omega) (by omega)] at k2
  rw [wrap_i64 (n := y + ((274 : Nat) : Int)) (by omega) (by omega), wrap_i64 (by omega) (by omega), show y + ((274 : Nat) : Int) - (n : Int) = y + ((274 - n : Nat) : Int) by omega]
  exact k2
theorem pl_congr_co {n : Nat} {f : Nat → UInt8} {k : Nat} (h : k < n) : co (pl n f) k = f k := by rw [co_pl, if_pos h]
theorem strOf_loose {H : Heap} {c n : Nat} {f : Nat → UInt8} (h : LAt H c n f) : strOf H ⟨some (c, 0), n, n⟩ = some (pl n f) := by
  unfold strOf
  rw [h.poly.row.row]
  exact bytes_of_cells _
set_option maxHeartbeats 2000000 in
theorem WeaveBursts_true (x0 : Bytes) (x1 : Int) (x2 : Sl) {H : Heap} (hx0 : x0.length ≤ 140737488351232) (_ : wfC (.int .i64 x1)) (hx2 : Came [.int .u8] [] x2 H) : ∃ H', law29_WeaveBursts x0 x1 x2 H = some ((true, ()), H') := by
  obtain ⟨bs, hbs⟩ := came_bytes hx2
  have hbl := hbs.len
  have hpl := pgF_len x0 250
  have hpe : law29_page x0 250 = some (pgF x0 250, ()) := page_eq x0 250 hx0 (by omega)
  generalize hs : pgF x0 250 = s at hpl hpe
  have hok := ok250 hpl
  have hsh : weave_ShapeOf 250 8 = some (shT 3 84 8 274, true, ()) := by
    have := shapeOf_ok (s := 250) (P := 8) (by decide) (by decide) (by decide) (by decide)
    rw [sh250] at this
    exact this
  obtain ⟨H3, w1, w2, w3⟩ := sh_wr (H := H ++ [Blk.cells [.int .i64 0, .int .i64 0, .int .i64 0, .int .i64 0] .exact]) (b := H.length) (a1 := ((3 : Nat) : Int)) (a2 := ((84 : Nat) : Int)) (a3 := ((8 : Nat) : Int)) (a4 := ((274 : Nat) : Int)) app_last
  obtain ⟨r1, r2, _, _⟩ := sh_at w2
  have k3 : Keep (fun _ => False) H H3 := ((Keep.push (fun j => j = H.length) H _).trans w3).new fun j hj hlt => by
    have : j = H.length := hj
    omega
  have hen := wencode_eq hok 7
  have hrl := rawF_len s 3 8 7
  rw [shT_eq, hpl] at hen
  rw [hpl] at hrl
  have hrl : (rawF s 3 8 7).length = 274 := hrl
  have hen : weave_Encode s (((3 : Nat) : Int), ((84 : Nat) : Int), ((8 : Nat) : Int), ((274 : Nat) : Int), ()) 7 = some (rawF s 3 8 7, 0, ()) := hen
  generalize hraw : rawF s 3 8 7 = raw at hen hrl
  obtain ⟨k, k1, k2⟩ := mid_pick x1 12 (by decide) (by decide)
  let f : Nat → Nat → UInt8 := fun i j => if k ≤ j ∧ j < k + i then co raw j ^^^ co bs (j - k) else co raw j
  have hf : ∀ i j, f (i + 1) j = if j = k + i then co raw j ^^^ co bs i else f i j := fun i j => by
    show (if k ≤ j ∧ j < k + (i + 1) then _ else _) = if j = k + i then _ else if k ≤ j ∧ j < k + i then _ else _
    by_cases e : j = k + i
    · rw [if_pos e, if_pos (by omega), show j - k = i by omega]
    · rw [if_neg e]
      by_cases e2 : k ≤ j ∧ j < k + i
      · rw [if_pos e2, if_pos (by omega)]
      · rw [if_neg e2, if_neg (by omega)]
  have la0 : LAt (H3 ++ [Blk.cells (cellsOf raw) .loose]) H3.length 274 (f 0) := by
    have h1 : LAt (H3 ++ [Blk.cells (cellsOf raw) .loose]) H3.length 274 (co raw) := by
      unfold LAt
      rw [app_last, ← cells_pl, ← hrl, pl_co]
    exact h1.congr fun j _ => by
      show _ = if k ≤ j ∧ j < k + 0 then _ else _
      rw [if_neg (by omega)]
  obtain ⟨y, G, l1, n, rfl, hn, g1, g2⟩ := loop_rise (step := law29_WeaveBursts.s1 x1 x2 H3 (raw, 0, ())) (min 12 bs.length)
    (fun i y G => y = (((cN 274 fun j => f i j != co raw j : Nat) : Int), (i : Int), ()) ∧ LAt G H3.length 274 (f i) ∧ Keep (fun j => j = H3.length) (H3 ++ [Blk.cells (cellsOf raw) .loose]) G)
    (fun y G => ∃ n, y = (((cN 274 fun j => f n j != co raw j : Nat) : Int), ()) ∧ n ≤ 12 ∧ LAt G H3.length 274 (f n) ∧ Keep (fun j => j = H3.length) (H3 ++ [Blk.cells (cellsOf raw) .loose]) G)
    (by
      rintro i _ G hi ⟨rfl, g1, g2⟩
      left
      have hki : k + i < 274 := by omega
      have hn12 : IntKind.wrap .i64 ((k : Int) + (i : Int)) = ((k + i : Nat) : Int) := by rw [wrap_i64 (by omega) (by omega)]; omega
      have hat : Sl.at 1 ⟨some (H3.length, 0), 274, 274⟩ ((k + i : Nat) : Int) = some (H3.length, k + i) := BAt.at hki
      have e1 := g1.get hki
      have hfk : f i (k + i) = co raw (k + i) := by
        show (if k ≤ k + i ∧ k + i < k + i then _ else _) = _
        rw [if_neg (by omega)]
      rw [hfk] at e1
      obtain ⟨G2, a1, a2, a3⟩ := g1.set hki (co raw (k + i) ^^^ co bs i)
      have hbG : PAt G x2 bs := ⟨hbs.row.keep (((k3.mono (G := fun j => j = H3.length) fun _ h => h.elim).trans (Keep.push _ _ _)).trans g2) fun b o hp h => by
        have h5 := hbs.row.lt hp
        have h6 := k3.len
        have h : b = H3.length := h
        omega, hbs.cap⟩
      have hbG2 : PAt G2 x2 bs := ⟨hbG.row.keep a3 fun b o hp h => by
        have h5 := hbs.row.lt hp
        have h6 := k3.len
        have h : b = H3.length := h
        omega, hbs.cap⟩
      obtain ⟨b, o, q1, q2, _⟩ := hbG.byte (i := i) (by omega)
      obtain ⟨b2, o2, q3, q4, _⟩ := hbG2.byte (i := i) (by omega)
      have hbo := Option.some.inj (q1.symm.trans q3)
      obtain ⟨rfl, rfl⟩ := Prod.mk.inj hbo
      have hcnt : (cN 274 fun j => f (i + 1) j != co raw j) = (cN 274 fun j => f i j != co raw j) + (if co bs i = 0 then 0 else 1) := by
        rw [cN_split (p := fun j => f (i + 1) j != co raw j) hki, cN_split (p := fun j => f i j != co raw j) hki]
        have h1 : cN 274 (fun j => (f (i + 1) j != co raw j) && j != k + i) = cN 274 (fun j => (f i j != co raw j) && j != k + i) := cN_congr fun j _ => by
          by_cases e : j = k + i
          · have : (j != k + i) = false := by rw [e]; simp
            rw [this, Bool.and_false, Bool.and_false]
          · rw [hf, if_neg e]
        rw [h1, hf, if_pos rfl, hfk, if_neg (show ¬ (co raw (k + i) != co raw (k + i)) = true by simp)]
        by_cases e : co bs i = 0
        · rw [if_pos e, e, UInt8.xor_zero, if_neg (by simp)]
        · rw [if_neg e, if_pos (bne_iff_ne.2 fun h => e (xor_ne.1 h))]
      have hcl := cN_le 274 fun j => f i j != co raw j
      refine ⟨(((cN 274 fun j => f (i + 1) j != co raw j : Nat) : Int), ((i + 1 : Nat) : Int), ()), G2, ?_, rfl, a2.congr fun j _ => ?_, g2.trans a3⟩
      · have k2' := k2
        unfold law29_WeaveBursts.s1
        simp only [decide_eq_true (show (i : Int) < 12 by omega), decide_eq_true (show (i : Int) < (x2.len : Int) by omega), cond_t, hrl]
        have hk12 : ((12 : Nat) : Int) = 12 := rfl
        rw [hk12] at k2'
        simp only [k2', hn12, hat, bind_some, e1, q1, q2, un_xor, a1, q4, wrap_succ (show i < 9223372036854775807 by omega)]
        rw [hcnt]
        by_cases e : co bs i = 0
        · rw [decide_eq_true ((un_zero _).2 e), if_pos e]; rfl
        · rw [decide_eq_false (fun h => e ((un_zero _).1 h)), if_neg e, wrap_succ (by omega)]; rfl
      · rw [hf]
        by_cases e : j = k + i
        · rw [if_pos e, if_pos e, e]
        · rw [if_neg e, if_neg e])
    (by
      rintro _ G ⟨rfl, g1, g2⟩
      refine ⟨(((cN 274 fun j => f (min 12 bs.length) j != co raw j : Nat) : Int), ()), G, ?_, _, rfl, Nat.min_le_left _ _, g1, g2⟩
      unfold law29_WeaveBursts.s1
      by_cases h : bs.length < 12
      · simp only [show min 12 bs.length = bs.length by omega, decide_eq_false (show ¬ ((bs.length : Nat) : Int) < (x2.len : Int) by omega), cond_f]
        cases decide (((bs.length : Nat) : Int) < 12) <;> rfl
      · simp only [show min 12 bs.length = 12 by omega, decide_eq_false (show ¬ ((12 : Nat) : Int) < 12 by omega), cond_f])
    (y := (((cN 274 fun j => f 0 j != co raw j : Nat) : Int), ((0 : Nat) : Int), ())) (H := H3 ++ [Blk.cells (cellsOf raw) .loose]) ⟨rfl, la0, Keep.refl _ _⟩
  have hc0 : (cN 274 fun j => f 0 j != co raw j) = 0 := cN_none fun j _ => by
    show ((if k ≤ j ∧ j < k + 0 then _ else _) != _) = false
    rw [if_neg (by omega)]; simp
  rw [hc0] at l1
  have l1' : loopW (law29_WeaveBursts.s1 x1 x2 H3 (raw, 0, ())) (0, 0, ()) (H3 ++ [Blk.cells (cellsOf raw) .loose]) = some ((((cN 274 fun j => f n j != co raw j : Nat) : Int), ()), G) := l1
  have hlt3 : H.length < H3.length := get_lt w2
  have hshG := g2.get ((Keep.push (fun _ => False) H3 (Blk.cells (cellsOf raw) .loose)).get w2 id) (fun h => by have : H.length = H3.length := h; omega)
  obtain ⟨r3, _, _, _⟩ := sh_at hshG
  have hcf : ∀ j, j < 274 → co (pl 274 (f n)) j = f n j := fun j hj => pl_congr_co hj
  have hin : ∀ j, (f n j != co raw j) = true → k ≤ j ∧ j < k + 12 := fun j h => by
    have h : ((if k ≤ j ∧ j < k + n then co raw j ^^^ co bs (j - k) else co raw j) != co raw j) = true := h
    by_cases e : k ≤ j ∧ j < k + n
    · omega
    · rw [if_neg e] at h
      exact absurd h (by simp)
  obtain ⟨G2, kk, d1⟩ := wback (rowNil G) (by show 0 < 100000; omega) hok 7 (raw2 := pl 274 (f n)) (by rw [pl_len, hpl]) (fun _ => false) (fun k _ => ⟨fun h => absurd h (by decide), fun h => absurd h List.not_mem_nil⟩) (fun c hc => by
    rw [hraw, hpl]
    have hz : (cN (wl (250 + 3 * 8) 3 c) fun _ => false) = 0 := cN_none fun _ _ => rfl
    have hw : (cN (wl (250 + 3 * 8) 3 c) fun j => co (pl 274 (f n)) (c + j * 3) != co raw (c + j * 3) && !false) ≤ 4 := (cN_window (lo := (k + 2 - c) / 3) (m := 4) fun j hj hp => by
      have hjl := (wl_lt (L := 250 + 3 * 8) (W := 3) (n := c) (k := j) (by decide)).1 hj
      rw [Bool.not_false, Bool.and_true, hcf _ (by omega)] at hp
      have := hin _ hp
      omega).1
    rw [hz]; omega)
  rw [hraw, hpl, shT_eq] at d1
  have d1' : weave_Decode (pl 274 (f n)) (((3 : Nat) : Int), ((84 : Nat) : Int), ((8 : Nat) : Int), ((274 : Nat) : Int), ()) 7 ⟨none, 0, 0⟩ G = some ((s, ((cN 274 fun j => co (pl 274 (f n)) j != co raw j : Nat) : Int), 0, ()), G2) := d1
  have hce : (cN 274 fun j => co (pl 274 (f n)) j != co raw j) = cN 274 fun j => f n j != co raw j := cN_congr fun j hj => by rw [hcf j hj]
  rw [hce] at d1'
  have hnz : decide (IntKind.wrap .i64 (((274 : Nat) : Int) - 12) = 0) = false := by decide +kernel
  refine ⟨G2, ?_⟩
  unfold law29_WeaveBursts
  rw [hsh]
  simp only [bind_some, shT]
  simp only [w1, bind_some, awake29_eq, Bool.not_true, cond_f, r2, show decide (((3 : Nat) : Int) = 3) = true from rfl, hpe, r1, hen, decide_true, hrl, hnz, l1', strOf_loose g1, r3, d1', cond_t]
set_option maxHeartbeats 2000000 in
theorem WeaveLost_true (x0 : Bytes) (x1 x2 : Int) (hx0 : x0.length ≤ 140737488351232) (_ : wfC (.int .i64 x1)) (hx2 : wfC (.int .u8 x2)) : law29_WeaveLost x0 x1 x2 = some (true, ()) := by
  have hx2 : 0 ≤ x2 ∧ x2 ≤ 255 := hx2
  obtain ⟨fill, rfl⟩ := u8_of hx2.1 hx2.2
  have hpl := pgF_len x0 250
  have hpe : law29_page x0 250 = some (pgF x0 250, ()) := page_eq x0 250 hx0 (by omega)
  generalize hs : pgF x0 250 = s at hpl hpe
  have hok := ok250 hpl
  have hsh : weave_ShapeOf 250 8 = some (shT 3 84 8 274, true, ()) := by
    have := shapeOf_ok (s := 250) (P := 8) (by decide) (by decide) (by decide) (by decide)
    rw [sh250] at this
    exact this
  obtain ⟨H3, w1, w2, w3⟩ := sh_wr (H := ([] : Heap) ++ [Blk.cells [.int .i64 0, .int .i64 0, .int .i64 0, .int .i64 0] .exact]) (b := 0) (a1 := ((3 : Nat) : Int)) (a2 := ((84 : Nat) : Int)) (a3 := ((8 : Nat) : Int)) (a4 := ((274 : Nat) : Int)) rfl
  obtain ⟨r1, r2, _, _⟩ := sh_at w2
  have hen := wencode_eq hok 3
  have hrl := rawF_len s 3 8 3
  rw [shT_eq, hpl] at hen
  rw [hpl] at hrl
  have hrl : (rawF s 3 8 3).length = 274 := hrl
  have hen : weave_Encode s (((3 : Nat) : Int), ((84 : Nat) : Int), ((8 : Nat) : Int), ((274 : Nat) : Int), ()) 3 = some (rawF s 3 8 3, 0, ()) := hen
  generalize hraw : rawF s 3 8 3 = raw at hen hrl
  obtain ⟨k, k1, k2⟩ := mid_pick x1 24 (by decide) (by decide)
  have k2 : Int.tmod (IntKind.wrap .i64 ((IntKind.wrap .i64 ((Int.tmod x1 (IntKind.wrap .i64 (((274 : Nat) : Int) - 24))) + ((274 : Nat) : Int))) - 24)) (IntKind.wrap .i64 (((274 : Nat) : Int) - 24)) = (k : Int) := k2
  let f : Nat → Nat → UInt8 := fun i j => if k ≤ j ∧ j < k + i then fill else co raw j
  have hf : ∀ i j, f (i + 1) j = if j = k + i then fill else f i j := fun i j => by
    show (if k ≤ j ∧ j < k + (i + 1) then _ else _) = if j = k + i then _ else if k ≤ j ∧ j < k + i then _ else _
    by_cases e : j = k + i
    · rw [if_pos e, if_pos (by omega)]
    · rw [if_neg e]
      by_cases e2 : k ≤ j ∧ j < k + i
      · rw [if_pos e2, if_pos (by omega)]
      · rw [if_neg e2, if_neg (by omega)]
  let ls : Nat → List Int := fun i => [-1, 274] ++ (List.range i).map fun m => ((k + m : Nat) : Int)
  have hls : ∀ i, ls (i + 1) = ls i ++ [((k + i : Nat) : Int)] := fun i => by
    show [-1, 274] ++ (List.range (i + 1)).map _ = _
    rw [List.range_succ, List.map_append, ← List.append_assoc]; rfl
  have hlsl : ∀ i, (ls i).length = i + 2 := fun i => by
    show ([-1, 274] ++ (List.range i).map _ : List Int).length = _
    rw [List.length_append, List.length_map, List.length_range]
    show 2 + i = i + 2; omega
  have hlsm : ∀ i j : Nat, j < 274 → ((j : Int) ∈ ls i ↔ k ≤ j ∧ j < k + i) := fun i j hj => by
    show (j : Int) ∈ [-1, 274] ++ (List.range i).map _ ↔ _
    rw [List.mem_append, List.mem_map]
    constructor
    · rintro (h | ⟨m, h1, h2⟩)
      · simp at h; omega
      · have := List.mem_range.1 h1
        have : k + m = j := Int.ofNat.inj h2
        omega
    · intro h
      exact .inr ⟨j - k, List.mem_range.2 (by omega), by omega⟩
  have hlt3 : 0 < H3.length := get_lt w2
  have hl8 : (H3 ++ [Blk.cells (cellsOf raw) .loose]).length = H3.length + 1 := by simp
  have la0 : LAt ((H3 ++ [Blk.cells (cellsOf raw) .loose]) ++ [Blk.cells [.int .i64 (-1), .int .i64 ((274 : Nat) : Int)] .exact]) H3.length 274 (f 0) := by
    have h1 : LAt (H3 ++ [Blk.cells (cellsOf raw) .loose]) H3.length 274 (co raw) := by
      unfold LAt
      rw [app_last, ← cells_pl, ← hrl, pl_co]
    have h2 : LAt ((H3 ++ [Blk.cells (cellsOf raw) .loose]) ++ [Blk.cells [.int .i64 (-1), .int .i64 ((274 : Nat) : Int)] .exact]) H3.length 274 (co raw) := (Keep.push (fun _ => False) _ _).get h1 id
    exact h2.congr fun j _ => by
      show _ = if k ≤ j ∧ j < k + 0 then _ else _
      rw [if_neg (by omega)]
  have g0 : GrowN H3 ((H3 ++ [Blk.cells (cellsOf raw) .loose]) ++ [Blk.cells [.int .i64 (-1), .int .i64 ((274 : Nat) : Int)] .exact]) 1 ⟨some (H3.length + 1, 0), 2, 2⟩ (intC (ls 0)) := by
    refine ⟨⟨rfl, rfl, fun h => (by cases h), fun a h => (by cases h; exact ⟨rfl, .inr (by rw [← hl8]; exact app_last)⟩)⟩, (Keep.push _ _ _).trans (Keep.push _ _ _), fun a h => (by cases h; exact Nat.le_succ _)⟩
  obtain ⟨y, G, l1, t, rfl, g1, g2, g3⟩ := loop_rise (step := law29_WeaveLost.s1 x1 (un fill) H3 (raw, 0, ())) 24
    (fun i y G => ∃ t, y = (t, (i : Int), ()) ∧ GrowN H3 G 1 t (intC (ls i)) ∧ LAt G H3.length 274 (f i) ∧ (∀ a, t.p = some a → a.1 ≠ H3.length) ∧ H3.length < G.length)
    (fun y G => ∃ t, y = (t, ()) ∧ GrowN H3 G 1 t (intC (ls 24)) ∧ LAt G H3.length 274 (f 24) ∧ H3.length < G.length)
    (by
      rintro i _ G hi ⟨t, rfl, g, la, hne, hlg⟩
      left
      have hki : k + i < 274 := by omega
      have hn24 : IntKind.wrap .i64 ((k : Int) + (i : Int)) = ((k + i : Nat) : Int) := by rw [wrap_i64 (by omega) (by omega)]; omega
      have hat : Sl.at 1 ⟨some (H3.length, 0), 274, 274⟩ ((k + i : Nat) : Int) = some (H3.length, k + i) := BAt.at hki
      obtain ⟨G2, a1, a2, a3⟩ := la.set hki fill
      have g' : GrowN H3 G2 1 t (intC (ls i)) := g.stay a3 fun j hj _ => by
        have hj : j = H3.length := hj
        exact ⟨by omega, fun a ha => by rw [hj]; exact hne a ha⟩
      have htl := g'.int_len
      rw [hlsl] at htl
      obtain ⟨t', G3, b1, b2, b3, b4, b5, nb, hnb, hnb2⟩ := g'.one (bytes := 8) (new := [.int .i64 ((k + i : Nat) : Int)]) (by decide) rfl (by omega) (by omega)
      have h23 := a3.len
      have h35 := b5.len
      refine ⟨(t', ((i + 1 : Nat) : Int), ()), G3, ?_, t', rfl, by rw [hls, intC_snoc]; exact b3, LAt.congr (show LAt G3 H3.length 274 (fun j => if j = k + i then fill else f i j) from b5.get a2 fun ⟨o, ho⟩ => hne _ ho rfl) fun j _ => ?_, fun a ha => ?_, by omega⟩
      · unfold law29_WeaveLost.s1
        simp only [decide_eq_true (show (i : Int) < 24 by omega), cond_t, hrl, k2, hn24, hat, bind_some, a1, b1, b2, wrap_succ (show i < 9223372036854775807 by omega)]
      · rw [hf]
      · rw [hnb] at ha
        cases ha
        show nb ≠ _; omega)
    (by
      rintro _ G ⟨t, rfl, g, la, hne, hlg⟩
      refine ⟨(t, ()), G, ?_, t, rfl, g, la, hlg⟩
      unfold law29_WeaveLost.s1
      simp only [decide_eq_false (show ¬ ((24 : Nat) : Int) < 24 by omega), cond_f])
    (y := (⟨some (H3.length + 1, 0), 2, 2⟩, ((0 : Nat) : Int), ())) (H := (H3 ++ [Blk.cells (cellsOf raw) .loose]) ++ [Blk.cells [.int .i64 (-1), .int .i64 ((274 : Nat) : Int)] .exact])
    ⟨_, rfl, g0, la0, fun a ha => (by cases ha; show H3.length + 1 ≠ _; omega), by rw [List.length_append, List.length_append]; show H3.length < H3.length + 1 + 1; omega⟩
  have l1' : loopW (law29_WeaveLost.s1 x1 (un fill) H3 (raw, 0, ())) (⟨some (H3.length + 1, 0), 2, 2⟩, 0, ()) ((H3 ++ [Blk.cells (cellsOf raw) .loose]) ++ [Blk.cells [.int .i64 (-1), .int .i64 ((274 : Nat) : Int)] .exact]) = some ((t, ()), G) := l1
  obtain ⟨r3, _, _, _⟩ := sh_at (g1.keep.get w2 id)
  have hcf : ∀ j, j < 274 → co (pl 274 (f 24)) j = f 24 j := fun j hj => pl_congr_co hj
  obtain ⟨G2, kk, d1⟩ := wback g1.row (by rw [hlsl]; omega) hok 3 (raw2 := pl 274 (f 24)) (by rw [pl_len, hpl]) (fun j => decide (k ≤ j ∧ j < k + 24)) (fun j hj => by
    rw [hpl] at hj
    rw [hlsm 24 j hj, decide_eq_true_iff]) (fun c hc => by
    rw [hraw, hpl]
    have hz : (cN (wl (250 + 3 * 8) 3 c) fun j => co (pl 274 (f 24)) (c + j * 3) != co raw (c + j * 3) && !(decide (k ≤ c + j * 3 ∧ c + j * 3 < k + 24))) = 0 := cN_none fun j hj => by
      have hjl := (wl_lt (L := 250 + 3 * 8) (W := 3) (n := c) (k := j) (by decide)).1 hj
      rw [hcf _ (by omega)]
      show ((if k ≤ c + j * 3 ∧ c + j * 3 < k + 24 then fill else co raw (c + j * 3)) != _ && _) = false
      by_cases e : k ≤ c + j * 3 ∧ c + j * 3 < k + 24
      · rw [decide_eq_true e]; simp
      · rw [if_neg e]; simp
    have hw : (cN (wl (250 + 3 * 8) 3 c) fun j => decide (k ≤ c + j * 3 ∧ c + j * 3 < k + 24)) ≤ 8 := (cN_window (lo := (k + 2 - c) / 3) (m := 8) fun j hj hp => by
      have := of_decide_eq_true hp
      omega).1
    rw [hz]; omega)
  rw [hraw, hpl, shT_eq] at d1
  have d1' : weave_Decode (pl 274 (f 24)) (((3 : Nat) : Int), ((84 : Nat) : Int), ((8 : Nat) : Int), ((274 : Nat) : Int), ()) 3 t G = some ((s, _, 0, ()), G2) := d1
  have hnz : decide (IntKind.wrap .i64 (((274 : Nat) : Int) - 24) = 0) = false := by decide +kernel
  unfold law29_WeaveLost law29_WeaveLost.on
  rw [hsh]
  simp only [bind_some, shT, List.length_nil]
  simp only [w1, bind_some, awake29_eq, Bool.not_true, cond_f, hpe, r1, hen, decide_true, hrl, hl8, hnz, l1', strOf_loose g2, r3, d1', cond_t]
end Ev
