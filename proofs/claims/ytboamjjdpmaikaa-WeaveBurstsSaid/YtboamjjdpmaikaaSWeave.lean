/- Weaving: shapes, masks, mixing, erased bytes. -/
import Derived.Test.YtboamjjdpmaikaaGWeave
import Derived.Test.YtboamjjdpmaikaaSRsJ
namespace Ev
open Go (IntKind)

/-! Shapes. -/
abbrev Sh := Int × Int × Int × Int × Unit
def shT (W D P R : Nat) : Sh := ((W : Int), (D : Int), (P : Int), (R : Int), ())
def dat (s n : Nat) : Nat := (s + n - 1) / n
def fW (s P : Nat) : Nat → Nat → Nat
  | 0, n => n
  | f + 1, n => if 127 < dat s n + P then fW s P f (n + 1) else n
/-- How many words. -/
def shW (s P : Nat) : Nat := fW s P 10 1
theorem fW_ok (s P : Nat) (h : dat s 11 + P ≤ 127) : ∀ (f n : Nat), f + n = 11 → 1 ≤ n → (∀ m, 1 ≤ m → m < n → 127 < dat s m + P) → n ≤ fW s P f n ∧ fW s P f n ≤ 11 ∧ dat s (fW s P f n) + P ≤ 127 ∧ ∀ m, 1 ≤ m → m < fW s P f n → 127 < dat s m + P
  | 0, n, hf, hn, hm => by
    have : n = 11 := by omega
    subst this
    exact ⟨Nat.le_refl _, Nat.le_refl _, h, hm⟩
  | f + 1, n, hf, hn, hm => by
    rw [fW]
    split
    · rename_i hlt
      obtain ⟨a, b, c, d⟩ := fW_ok s P h f (n + 1) (by omega) (by omega) fun m h1 h2 => by
        by_cases e : m = n
        · rw [e]; exact hlt
        · exact hm m h1 (by omega)
      exact ⟨by omega, b, c, d⟩
    · exact ⟨Nat.le_refl _, by omega, by omega, hm⟩
theorem shW_ok {s P : Nat} (h1 : s ≤ 1024) (h2 : P ≤ 32) : 1 ≤ shW s P ∧ shW s P ≤ 11 ∧ dat s (shW s P) + P ≤ 127 ∧ ∀ m, 1 ≤ m → m < shW s P → 127 < dat s m + P :=
  fW_ok s P (by unfold dat; omega) 10 1 rfl (Nat.le_refl _) fun m h1 h2 => by omega
theorem dat_le (s n : Nat) (h : 1 ≤ n) : s ≤ dat s n * n := by
  unfold dat
  have h1 := Nat.div_add_mod (s + n - 1) n
  have h2 := Nat.mod_lt (s + n - 1) (show 0 < n by omega)
  rw [Nat.mul_comm] at h1
  omega
theorem dat_lt (s n : Nat) (h : 1 ≤ n) : dat s n * n < s + n := by
  unfold dat
  have h1 := Nat.div_add_mod (s + n - 1) n
  rw [Nat.mul_comm] at h1
  omega
theorem dat_bd {s : Nat} (n : Nat) (h : 1 ≤ n) (hs : s ≤ 1024) : dat s n ≤ 1024 := by
  have h1 := dat_lt s n h
  by_cases hle : dat s n ≤ 1024
  · exact hle
  · have : 1025 * n ≤ dat s n * n := Nat.mul_le_mul_right n (by omega)
    omega
/-- The shape of a page of so many bytes. -/
def shF (s P : Nat) : Sh := shT (shW s P) (dat s (shW s P)) P (s + shW s P * P)
theorem sh_at {H : Heap} {b : Nat} {a1 a2 a3 a4 : Int} {bk : BK} (h : H[b]? = some (.cells [.int .i64 a1, .int .i64 a2, .int .i64 a3, .int .i64 a4] bk)) : @Eq (Option (Int × Int × Int × Int × Unit)) (rd H (.agg [.int .i64, .int .i64, .int .i64, .int .i64]) b 0) (some (a1, a2, a3, a4, ())) ∧ rdI .i64 H b 0 = some a1 ∧ rdI .i64 H b 2 = some a3 ∧ rdI .i64 H b 3 = some a4 :=
  ⟨rd_agg_of h (Nat.le_refl 4) rfl, rdI_of h rfl, rdI_of h rfl, rdI_of h rfl⟩
theorem tdiv_nat (a b : Nat) : Int.tdiv (a : Int) (b : Int) = ((a / b : Nat) : Int) := rfl
theorem shapeOf_ok {s P : Nat} (h0 : 1 ≤ s) (h1 : s ≤ 1024) (h2 : 2 ≤ P) (h3 : P ≤ 32) : weave_ShapeOf (s : Int) (P : Int) = some (shF s P, true, ()) := by
  obtain ⟨w1, w2, w3, w4⟩ := shW_ok h1 h3
  unfold shF
  generalize shW s P = W at w1 w2 w3 w4
  have hdat : ∀ n : Nat, 1 ≤ n → n ≤ 11 → IntKind.wrap .i64 (Int.tdiv (IntKind.wrap .i64 ((IntKind.wrap .i64 ((s : Int) + (n : Int))) - 1)) (n : Int)) = ((dat s n : Nat) : Int) := fun n hn hn2 => by
    rw [wrap_i64 (n := (s : Int) + (n : Int)) (by omega) (by omega), wrap_i64 (n := (s : Int) + (n : Int) - 1) (by omega) (by omega), show (s : Int) + (n : Int) - 1 = ((s + n - 1 : Nat) : Int) by omega, tdiv_nat]
    have := dat_bd n hn h1
    show IntKind.wrap .i64 ((dat s n : Nat) : Int) = _
    generalize dat s n = z at this
    exact wrap_i64 (by omega) (by omega)
  obtain ⟨x, G, l1, rfl, rfl⟩ := loop_rise (step := weave_ShapeOf.s1 (s : Int) (P : Int)) (W - 1) (fun i y G => G = [Blk.cells [.int .i64 0, .int .i64 0, .int .i64 0, .int .i64 0] .exact] ∧ y = (((i + 1 : Nat) : Int), ())) (fun x G => G = [Blk.cells [.int .i64 0, .int .i64 0, .int .i64 0, .int .i64 0] .exact] ∧ x = ((W : Int), ()))
    (by
      rintro i _ G hi ⟨rfl, rfl⟩
      left
      have hd := w4 (i + 1) (by omega) (by omega)
      have hb := dat_bd (i + 1) (by omega) h1
      refine ⟨_, _, ?_, rfl, rfl⟩
      unfold weave_ShapeOf.s1
      simp only [decide_eq_false (show ¬ ((i + 1 : Nat) : Int) = 0 by omega), cond_f, hdat (i + 1) (by omega) (by omega), wrap_i64 (n := ((dat s (i + 1) : Nat) : Int) + (P : Int)) (by omega) (by omega), decide_eq_true (show (127 : Int) < ((dat s (i + 1) : Nat) : Int) + (P : Int) by omega), cond_t, wrap_succ (show i + 1 < 9223372036854775807 by omega)])
    (by
      rintro _ G ⟨rfl, rfl⟩
      refine ⟨_, _, ?_, rfl, rfl⟩
      have hW : W - 1 + 1 = W := by omega
      rw [hW]
      unfold weave_ShapeOf.s1
      have hb := dat_bd W w1 h1
      simp only [decide_eq_false (show ¬ (W : Int) = 0 by omega), cond_f, hdat W w1 w2, wrap_i64 (n := ((dat s W : Nat) : Int) + (P : Int)) (by omega) (by omega), decide_eq_false (show ¬ (127 : Int) < ((dat s W : Nat) : Int) + (P : Int) by omega)])
    (y := (((0 + 1 : Nat) : Int), ())) (H := [Blk.cells [.int .i64 0, .int .i64 0, .int .i64 0, .int .i64 0] .exact]) ⟨rfl, rfl⟩
  have l1' : loopW (weave_ShapeOf.s1 (s : Int) (P : Int)) (1, ()) ([] ++ [Blk.cells [.int .i64 0, .int .i64 0, .int .i64 0, .int .i64 0] .exact]) = some (((W : Int), ()), [Blk.cells [.int .i64 0, .int .i64 0, .int .i64 0, .int .i64 0] .exact]) := l1
  have hP : W * P ≤ 11 * 32 := Nat.mul_le_mul w2 h3
  have hmul : (W : Int) * (P : Int) = ((W * P : Nat) : Int) := (Int.natCast_mul W P).symm
  have hR : IntKind.wrap .i64 ((s : Int) + (IntKind.wrap .i64 ((W : Int) * (P : Int)))) = ((s + W * P : Nat) : Int) := by
    rw [hmul, wrap_i64 (n := ((W * P : Nat) : Int)) (by omega) (by omega), wrap_i64 (by omega) (by omega)]; omega
  unfold weave_ShapeOf weave_ShapeOf.on
  simp only [decide_eq_false (show ¬ (s : Int) < 1 by omega), decide_eq_false (show ¬ (1024 : Int) < (s : Int) by omega), decide_eq_false (show ¬ (P : Int) < 2 by omega), decide_eq_false (show ¬ (32 : Int) < (P : Int) by omega), cond_f, l1', bind_some, decide_eq_false (show ¬ (W : Int) = 0 by omega), hdat W w1 w2, hR]
  rfl
theorem shapeOf_no {s P : Int} (h : s < 1 ∨ 1024 < s ∨ P < 2 ∨ 32 < P) : weave_ShapeOf s P = some (shT 0 0 0 0, false, ()) := by
  unfold weave_ShapeOf weave_ShapeOf.on
  by_cases c1 : s < 1
  · rw [decide_eq_true c1]; rfl
  rw [decide_eq_false c1]
  by_cases c2 : 1024 < s
  · rw [decide_eq_true c2]; rfl
  rw [decide_eq_false c2]
  by_cases c3 : P < 2
  · rw [decide_eq_true c3]; rfl
  rw [decide_eq_false c3, decide_eq_true (show 32 < P by omega)]; rfl
/-- What a shape is good for. -/
structure ShOK (s P W D : Nat) : Prop where
  s0 : 1 ≤ s
  s1 : s ≤ 1024
  p0 : 2 ≤ P
  p1 : P ≤ 32
  w : W = shW s P
  d : D = dat s W
theorem ShOK.wd {s P W D : Nat} (h : ShOK s P W D) : 1 ≤ W ∧ W ≤ 11 ∧ D + P ≤ 127 ∧ ∀ m, 1 ≤ m → m < W → 127 < dat s m + P := by
  have := shW_ok h.s1 h.p1
  rw [h.d, h.w]; exact this
theorem ShOK.sW {s P W D : Nat} (h : ShOK s P W D) : W ≤ s := by
  obtain ⟨w1, w2, w3, w4⟩ := h.wd
  have := h.s0
  by_cases hw : W = 1
  · omega
  · have h1 := w4 (W - 1) (by omega) (by omega)
    have h2 := dat_lt s (W - 1) (by omega)
    have h3 : 96 * (W - 1) ≤ dat s (W - 1) * (W - 1) := Nat.mul_le_mul_right _ (by have := h.p1; omega)
    omega
theorem ShOK.r {s P W D : Nat} (h : ShOK s P W D) : W * P ≤ 352 := Nat.mul_le_mul h.wd.2.1 h.p1
theorem ShOK.sub {s P W D : Nat} (h : ShOK s P W D) : IntKind.wrap .i64 (((s + W * P : Nat) : Int) - (IntKind.wrap .i64 ((W : Int) * (P : Int)))) = (s : Int) := by
  have := h.r
  have := h.s1
  have hmul : (W : Int) * (P : Int) = ((W * P : Nat) : Int) := (Int.natCast_mul W P).symm
  rw [hmul, wrap_i64 (n := ((W * P : Nat) : Int)) (by omega) (by omega), wrap_i64 (by omega) (by omega)]; omega
theorem fits_ok {s P W D : Nat} (h : ShOK s P W D) : weave_fits (shT W D P (s + W * P)) = some (true, ()) := by
  have hs := shapeOf_ok h.s0 h.s1 h.p0 h.p1
  have hsub := h.sub
  have hw := h.w
  have hd := h.d
  unfold shF at hs
  rw [← hw, ← hd] at hs
  unfold weave_fits weave_fits.on shT
  have r1 : rdI .i64 ([] ++ [Blk.cells [.int .i64 (W : Int), .int .i64 (D : Int), .int .i64 (P : Int), .int .i64 ((s + W * P : Nat) : Int)] .exact]) ([] : Heap).length 3 = some ((s + W * P : Nat) : Int) := rfl
  have r2 : rdI .i64 ([] ++ [Blk.cells [.int .i64 (W : Int), .int .i64 (D : Int), .int .i64 (P : Int), .int .i64 ((s + W * P : Nat) : Int)] .exact]) ([] : Heap).length 0 = some (W : Int) := rfl
  have r3 : rdI .i64 ([] ++ [Blk.cells [.int .i64 (W : Int), .int .i64 (D : Int), .int .i64 (P : Int), .int .i64 ((s + W * P : Nat) : Int)] .exact]) ([] : Heap).length 2 = some (P : Int) := rfl
  simp only [r1, bind_some, r2, r3, hsub, hs]
  show some (((decide ((W : Int) = (W : Int))) && ((decide ((D : Int) = (D : Int))) && ((decide ((P : Int) = (P : Int))) && ((decide (((s + W * P : Nat) : Int) = ((s + W * P : Nat) : Int))) && true)))), ()) = _
  simp

/-! Masks. -/
def lf (x : Nat) : Nat := x / 2 ^^^ (if x % 2 = 1 then 46080 else 0)
def lfN : Nat → Nat → Nat
  | 0, x => x
  | k + 1, x => lf (lfN k x)
theorem lf_lt {x : Nat} (h : x < 65536) : lf x < 65536 := by
  unfold lf
  refine Nat.xor_lt_two_pow (n := 16) (by show x / 2 < 65536; omega) ?_
  split <;> decide
theorem lfN_lt {x : Nat} (h : x < 65536) : ∀ k, lfN k x < 65536
  | 0 => h
  | k + 1 => lf_lt (lfN_lt h k)
def mseed (x : Int) : Nat := ((x % 65536).toNat * 40503 % 65536) ^^^ 44257
def mstart (x : Int) : Nat := if mseed x = 0 then 44257 else mseed x
theorem mseed_lt (x : Int) : mseed x < 65536 := Nat.xor_lt_two_pow (n := 16) (Nat.mod_lt _ (by decide)) (by decide)
theorem mstart_lt (x : Int) : mstart x < 65536 := by
  unfold mstart
  split
  · decide
  · exact mseed_lt x
def mkB (x : Int) (i : Nat) : UInt8 := UInt8.ofNat (lfN (8 * (i + 1)) (mstart x))
/-- Bytes that look like chance. -/
def maskF (x : Int) (n : Nat) : Bytes := pl n (mkB x)
theorem maskF_len (x : Int) (n : Nat) : (maskF x n).length = n := pl_len _ _
theorem xor16 {a b : Nat} (ha : a < 65536) (hb : b < 65536) : bitsI .xor .u16 (a : Int) (b : Int) = ((a ^^^ b : Nat) : Int) := xor_nat rfl ha hb
theorem wstart (x : Int) : bitsI .xor .u16 44257 (IntKind.wrap .u16 (IntKind.wrap .u64 ((IntKind.wrap .u64 x) * 40503))) = ((mseed x : Nat) : Int) := by
  have h : IntKind.wrap .u16 (IntKind.wrap .u64 ((IntKind.wrap .u64 x) * 40503)) = (((x % 65536).toNat * 40503 % 65536 : Nat) : Int) := by
    rw [wrap_u16, wrap_u64, wrap_u64]; omega
  rw [h]
  have h2 := xor16 (a := 44257) (b := (x % 65536).toNat * 40503 % 65536) (by decide) (Nat.mod_lt _ (by decide))
  have h2' : bitsI .xor .u16 44257 (((x % 65536).toNat * 40503 % 65536 : Nat) : Int) = _ := h2
  rw [h2', Nat.xor_comm]; rfl
theorem wr16 (x : Nat) : Int.fdiv (x : Int) (2 ^ (min (Int.toNat 1) (IntKind.bits .u16))) = ((x / 2 : Nat) : Int) := by
  rw [show (2 : Int) ^ (min (Int.toNat 1) (IntKind.bits .u16)) = ((2 : Nat) : Int) from rfl, fdiv_nat]
theorem and16 {x : Nat} (hx : x < 65536) : bitsI .and .u16 (x : Int) 1 = ((x % 2 : Nat) : Int) := by
  have := and_nat (k := .u16) rfl (a := x) (b := 1) hx (by decide)
  rw [Nat.and_one_is_mod] at this
  exact this
theorem mask_bits {x : Nat} (hx : x < 65536) (H : Heap) : loopW weave_Mask.s1 ((x : Int), 0, ()) H = some ((((lfN 8 x : Nat) : Int), ()), H) :=
  loop_for' 8 (fun i => (((lfN i x : Nat) : Int), (i : Int), ())) (fun _ => H) rfl rfl (fun i hi => by
    have hl := lfN_lt hx i
    unfold weave_Mask.s1
    simp only [decide_eq_true (show (i : Int) < 8 by omega), cond_t, and16 hl, wr16, wrap_succ (show i < 9223372036854775807 by omega)]
    rw [lfN, lf]
    by_cases hb : lfN i x % 2 = 1
    · have h2 : bitsI .xor .u16 ((lfN i x / 2 : Nat) : Int) 46080 = ((lfN i x / 2 ^^^ 46080 : Nat) : Int) := xor16 (b := 46080) (by omega) (by decide)
      rw [decide_eq_true (show ((lfN i x % 2 : Nat) : Int) = 1 by omega), cond_t, if_pos hb, h2]
    · rw [decide_eq_false (show ¬ ((lfN i x % 2 : Nat) : Int) = 1 by omega), cond_f, if_neg hb, Nat.xor_zero]) (by
    unfold weave_Mask.s1
    simp only [decide_eq_false (show ¬ ((8 : Nat) : Int) < 8 by omega), cond_f])
theorem lfN_add (a : Nat) (x : Nat) : ∀ b, lfN b (lfN a x) = lfN (a + b) x
  | 0 => rfl
  | b + 1 => by rw [lfN, lfN_add a x b]; rfl
theorem un_ofNat (n : Nat) : IntKind.wrap .u8 (n : Int) = un (UInt8.ofNat n) := by
  rw [wrap_u8]
  show _ = (((UInt8.ofNat n).toNat : Nat) : Int)
  rw [UInt8.toNat_ofNat']
  omega
theorem maxI0 (n : Int) : (if (0 : Int) > n then 0 else n) = ((n.toNat : Nat) : Int) := by split <;> omega
theorem strOf_exact {H : Heap} {c n : Nat} {f : Nat → UInt8} (h : BAt H c n f) : strOf H ⟨some (c, 0), n, n⟩ = some (pl n f) := by
  unfold strOf
  rw [h.poly.row.row]
  exact bytes_of_cells _
theorem bat_new (n : Nat) (f : Nat → UInt8) : BAt ([] ++ [.cells (arrC n fun _ => [.int .u8 (un 0)]) .exact]) 0 n (fun k => if k < 0 then f k else 0) := by
  unfold BAt
  rw [List.nil_append]
  show some (Blk.cells _ _) = _
  congr 2
theorem mask_eq (x k : Int) (hk : k < 1000000) : weave_Mask x k = some (maskF x k.toNat, ()) := by
  unfold weave_Mask weave_Mask.on
  have hst : (cond (decide ((bitsI .xor .u16 44257 (IntKind.wrap .u16 (IntKind.wrap .u64 ((IntKind.wrap .u64 x) * 40503)))) = 0)) (some (((44257 : Int), ()), ([] : Heap))) (some (((bitsI .xor .u16 44257 (IntKind.wrap .u16 (IntKind.wrap .u64 ((IntKind.wrap .u64 x) * 40503)))), ()), [])) : Option ((Int × Unit) × Heap)) = some ((((mstart x : Nat) : Int), ()), []) := by
    rw [wstart]
    unfold mstart
    by_cases h : mseed x = 0
    · rw [if_pos h, decide_eq_true (by omega)]; rfl
    · rw [if_neg h, decide_eq_false (by omega)]; rfl
  rw [hst]
  have hn : k.toNat ≤ 35184372088832 := by omega
  simp only [bind_some, maxI0, mk_bytes (H := []) hn]
  generalize hN : k.toNat = n at *
  obtain ⟨u, G, l1, g1⟩ := loop_rise (step := weave_Mask.s2 (⟨some (0, 0), n, n⟩, [] ++ [.cells (arrC n fun _ => [.int .u8 (un 0)]) .exact])) n (fun i y G => y = (((lfN (8 * i) (mstart x) : Nat) : Int), (i : Int), ()) ∧ BAt G 0 n fun k => if k < i then mkB x k else 0) (fun _ G => BAt G 0 n (mkB x))
    (by
      rintro i _ G hi ⟨rfl, g1⟩
      left
      obtain ⟨G2, a1, a2, a3⟩ := g1.set (i := i) hi (mkB x i)
      have hl := lfN_lt (mstart_lt x) (8 * i)
      refine ⟨(((lfN (8 * (i + 1)) (mstart x) : Nat) : Int), ((i + 1 : Nat) : Int), ()), G2, ?_, rfl, a2.congr fun k hk => ?_⟩
      · have hm := mask_bits hl G
        rw [lfN_add] at hm
        have ha1 : wr G 0 i [.int .u8 (IntKind.wrap .u8 ((lfN (8 * i + 8) (mstart x) : Nat) : Int))] = some G2 := by rw [un_ofNat]; exact a1
        unfold weave_Mask.s2
        simp only [decide_eq_true (show (i : Int) < (n : Int) by omega), cond_t, hm, bind_some, BAt.at hi, ha1, wrap_succ (show i < 9223372036854775807 by omega)]
        rfl
      · by_cases e : k = i
        · rw [if_pos e, if_pos (by omega), e]
        · rw [if_neg e]
          by_cases h2 : k < i
          · rw [if_pos h2, if_pos (by omega)]
          · rw [if_neg h2, if_neg (by omega)])
    (by
      rintro _ G ⟨rfl, g1⟩
      refine ⟨(), G, ?_, g1.congr fun k hk => by rw [if_pos hk]⟩
      unfold weave_Mask.s2
      simp only [decide_eq_false (show ¬ ((n : Nat) : Int) < (n : Int) by omega), cond_f])
    (y := (((lfN (8 * 0) (mstart x) : Nat) : Int), ((0 : Nat) : Int), ())) (H := [] ++ [.cells (arrC n fun _ => [.int .u8 (un 0)]) .exact]) ⟨rfl, bat_new n _⟩
  have l1' : loopW (weave_Mask.s2 (⟨some (([] : Heap).length, 0), n, n⟩, [] ++ [.cells (arrC n fun _ => [.int .u8 (un 0)]) .exact])) (((mstart x : Nat) : Int), 0, ()) ([] ++ [.cells (arrC n fun _ => [.int .u8 (un 0)]) .exact]) = some (u, G) := l1
  have hs : strOf G ⟨some (([] : Heap).length, 0), n, n⟩ = some (pl n (mkB x)) := strOf_exact g1
  simp only [l1', bind_some, hs]
  rfl

/-! Mixing. -/
def mixF (a b : Bytes) : Bytes := pl (min a.length b.length) fun k => co a k ^^^ co b k
theorem mixF_len (a b : Bytes) : (mixF a b).length = min a.length b.length := pl_len _ _
theorem mixF_twice {a b : Bytes} (h : a.length = b.length) : mixF (mixF a b) b = a := by
  unfold mixF
  rw [pl_len, h, Nat.min_self, Nat.min_self]
  have : a = pl b.length (co a) := by rw [← h, pl_co]
  rw [this, ← this]
  refine (pl_congr fun k hk => ?_).trans this.symm
  rw [co_pl, if_pos hk, UInt8.xor_assoc, UInt8.xor_self, UInt8.xor_zero]
theorem mix_eq (a b : Bytes) (ha : a.length < 1000000) (hb : b.length < 1000000) : weave_Mix a b = some (mixF a b, ()) := by
  unfold weave_Mix weave_Mix.on
  have hn : (if (b.length : Int) < (a.length : Int) then (b.length : Int) else (a.length : Int)) = ((min a.length b.length : Nat) : Int) := by split <;> omega
  rw [hn]
  unfold mixF
  generalize hN : min a.length b.length = n
  have hmk := mk_bytes (H := []) (show n ≤ 35184372088832 by omega)
  obtain ⟨u, G, l1, g1⟩ := loop_rise (step := weave_Mix.s1 a b (⟨some (0, 0), n, n⟩, [] ++ [.cells (arrC n fun _ => [.int .u8 (un 0)]) .exact])) n (fun i y G => y = ((i : Int), ()) ∧ BAt G 0 n fun k => if k < i then co a k ^^^ co b k else 0) (fun _ G => BAt G 0 n fun k => co a k ^^^ co b k)
    (by
      rintro i _ G hi ⟨rfl, g1⟩
      left
      obtain ⟨G2, a1, a2, a3⟩ := g1.set (i := i) hi (co a i ^^^ co b i)
      refine ⟨(((i + 1 : Nat) : Int), ()), G2, ?_, rfl, a2.congr fun k hk => ?_⟩
      · have hia : i < a.length := by omega
        have hib : i < b.length := by omega
        have e1 : idxS a (i : Int) = some (un (co a i)) := by rw [idx_of hia, co_lt hia]
        have e2 : idxS b (i : Int) = some (un (co b i)) := by rw [idx_of hib, co_lt hib]
        unfold weave_Mix.s1
        simp only [decide_eq_true (show (i : Int) < (n : Int) by omega), cond_t, e1, e2, bind_some, BAt.at hi, un_xor, a1, wrap_succ (show i < 9223372036854775807 by omega)]
      · by_cases e : k = i
        · rw [if_pos e, if_pos (by omega), e]
        · rw [if_neg e]
          by_cases h2 : k < i
          · rw [if_pos h2, if_pos (by omega)]
          · rw [if_neg h2, if_neg (by omega)])
    (by
      rintro _ G ⟨rfl, g1⟩
      refine ⟨(), G, ?_, g1.congr fun k hk => by rw [if_pos hk]⟩
      unfold weave_Mix.s1
      simp only [decide_eq_false (show ¬ ((n : Nat) : Int) < (n : Int) by omega), cond_f])
    (y := (((0 : Nat) : Int), ())) (H := [] ++ [.cells (arrC n fun _ => [.int .u8 (un 0)]) .exact]) ⟨rfl, bat_new n _⟩
  have l1' : loopW (weave_Mix.s1 a b (⟨some (([] : Heap).length, 0), n, n⟩, [] ++ [.cells (arrC n fun _ => [.int .u8 (un 0)]) .exact])) (0, ()) ([] ++ [.cells (arrC n fun _ => [.int .u8 (un 0)]) .exact]) = some (u, G) := l1
  have hs : strOf G ⟨some (([] : Heap).length, 0), n, n⟩ = some (pl n fun k => co a k ^^^ co b k) := strOf_exact g1
  simp only [hmk, bind_some, l1', hs]

/-! Erased bytes. -/
def pc : Nat → Nat → Nat
  | 0, _ => 0
  | k + 1, b => if b = 0 then 0 else pc k (b &&& (b - 1)) + 1
/-- How many bits of a byte are not set. -/
def zb (c : UInt8) : Nat := pc 9 (c.toNat ^^^ 255)
theorem pc_end : ∀ b, b < 256 → pc 9 b = pc 10 b ∧ pc 9 b ≤ 8 := by decide +kernel
theorem and_pred_lt : ∀ b, b < 256 → b &&& (b - 1) < 256 := by decide +kernel
theorem er_iter : ∀ (k : Nat) (n b : Nat) (H : Heap), b < 256 → pc k b < k → n + k < 1000000000 → ∃ j, iter weave_Erased.s1 j ((n : Int), (b : Int), ()) H = some ((((n + pc k b : Nat) : Int), ()), H)
  | 0, _, _, _, _, h, _ => absurd h (Nat.not_lt_zero _)
  | k + 1, n, b, H, hb, hk, hn => by
    by_cases h0 : b = 0
    · subst h0
      refine ⟨1, ?_⟩
      rw [iter]
      unfold weave_Erased.s1
      simp only [decide_eq_false (show ¬ (0 : Int) < ((0 : Nat) : Int) by omega), cond_f, pc, if_true, Nat.add_zero]
      rfl
    · rw [pc, if_neg h0] at hk
      obtain ⟨j, hj⟩ := er_iter k (n + 1) (b &&& (b - 1)) H (and_pred_lt b hb) (by omega) (by omega)
      refine ⟨j + 1, ?_⟩
      have hand : bitsI .and .u8 (b : Int) (IntKind.wrap .u8 ((b : Int) - 1)) = ((b &&& (b - 1) : Nat) : Int) := by
        have : IntKind.wrap .u8 ((b : Int) - 1) = ((b - 1 : Nat) : Int) := by rw [wrap_u8]; omega
        rw [this, and8 hb (by omega)]
      have hstep : weave_Erased.s1 ((n : Int), (b : Int), ()) H = some (.inl (((n + 1 : Nat) : Int), ((b &&& (b - 1) : Nat) : Int), ()), H) := by
        unfold weave_Erased.s1
        simp only [decide_eq_true (show (0 : Int) < (b : Int) by omega), cond_t, hand, wrap_succ (show n < 9223372036854775807 by omega)]
      rw [iter, hstep]
      show iter weave_Erased.s1 j _ H = _
      rw [hj, pc, if_neg h0, show n + 1 + pc k (b &&& (b - 1)) = n + (pc k (b &&& (b - 1)) + 1) by omega]
/-- How many bits are not set. -/
def zbs : Bytes → Nat
  | [] => 0
  | c :: r => zb c + zbs r
theorem zb_le (c : UInt8) : zb c ≤ 8 := (pc_end _ (xor_lt c.toNat_lt (by decide))).2
theorem zbs_le : ∀ s, zbs s ≤ 8 * s.length
  | [] => Nat.le_refl 0
  | c :: r => by
    have := zb_le c
    have := zbs_le r
    rw [zbs, List.length_cons]; omega
theorem zbs_snoc (t : Bytes) (c : UInt8) : zbs (t ++ [c]) = zbs t + zb c := by
  induction t with
  | nil => simp [zbs]
  | cons x r ih => rw [List.cons_append, zbs, ih, zbs]; omega
theorem erased_eq (s : Bytes) (few : Int) (hs : s.length < 1000000) : weave_Erased s few = some (decide ((zbs s : Int) ≤ few), ()) := by
  have l1 : loopW (weave_Erased.s2 s) (0, 0, ()) [] = some ((((zbs s : Nat) : Int), ()), []) := loop_for' s.length (fun i => (((zbs (s.take i) : Nat) : Int), (i : Int), ())) (fun _ => []) rfl rfl (fun i hi => by
      have hz := zbs_le (s.take i)
      rw [List.length_take] at hz
      have hx : (co s i).toNat ^^^ 255 < 256 := xor_lt (co s i).toNat_lt (by decide)
      have hpe := pc_end _ hx
      obtain ⟨j, hj⟩ := er_iter 10 (zbs (s.take i)) ((co s i).toNat ^^^ 255) [] hx (by omega) (by omega)
      have hidx : idxS s (i : Int) = some (un (co s i)) := by rw [idx_of hi, co_lt hi]
      have hxr : bitsI .xor .u8 (un (co s i)) 255 = (((co s i).toNat ^^^ 255 : Nat) : Int) := xor8 (b := 255) (co s i).toNat_lt (by decide)
      have hl := loopW_eq hj
      unfold weave_Erased.s2
      simp only [decide_eq_true (show (i : Int) < (s.length : Int) by omega), cond_t, hidx, bind_some, hxr, hl, wrap_succ (show i < 9223372036854775807 by omega)]
      rw [List.take_succ_eq_append_getElem hi, zbs_snoc, ← co_lt hi, ← hpe.1]; rfl) (by
      unfold weave_Erased.s2
      simp only [decide_eq_false (show ¬ ((s.length : Nat) : Int) < (s.length : Int) by omega), cond_f, List.take_length])
  unfold weave_Erased weave_Erased.on
  simp only [l1, bind_some]
end Ev
