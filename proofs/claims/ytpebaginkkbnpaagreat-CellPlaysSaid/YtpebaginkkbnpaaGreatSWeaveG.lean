/- Weaving: shapes, masks, mixing, erased bytes. Weaving: words, and how a page is kept. Weaving: how a page comes back. Weaving: Decode, whole. Weaving: which words are made right, and how many bytes were others. -/
import Derived.Test.YtpebaginkkbnpaaGreatSRsK
import Derived.Test.YtpebaginkkbnpaaGreatGWeave
namespace Ev
open Go (IntKind)

/-! Shapes. -/
abbrev Sh := Int × Int × Int × Int × Unit
def shT (W D P R : Nat) : Sh := ((W : Int), (D : Int), (P : Int), (R : Int), ())
def dat (s n : Nat) : Nat := (s + n - 1) / n
def fW (s P : Nat) : Nat → Nat → Nat
  | 0, n => n
  | f + 1, n => if 127 < dat s n + P then fW s P f (n + 1) else n
/-- How many words. -/
def shW (s P : Nat) : Nat := fW s P 10 1
theorem fW_ok (s P : Nat) (h : dat s 11 + P ≤ 127) : ∀ (f n : Nat), f + n = 11 → 1 ≤ n → (∀ m, 1 ≤ m → m < n → 127 < dat s m + P) → n ≤ fW s P f n ∧ fW s P f n ≤ 11 ∧ dat s (fW s P f n) + P ≤ 127 ∧ ∀ m, 1 ≤ m → m < fW s P f n → 127 < dat s m + P
  | 0, n, hf, hn, hm => by
    have : n = 11 := by omega
    subst this
    exact ⟨Nat.le_refl _, Nat.le_refl _, h, hm⟩
  | f + 1, n, hf, hn, hm => by
    rw [fW]
    split
    · rename_i hlt
      obtain ⟨a, b, c, d⟩ := fW_ok s P h f (n + 1) (by omega) (by omega) fun m h1 h2 => by
        by_cases e : m = n
        · rw [e]; exact hlt
        · exact hm m h1 (by omega)
      exact ⟨by omega, b, c, d⟩
    · exact ⟨Nat.le_refl _, by omega, by omega, hm⟩
theorem shW_ok {s P : Nat} (h1 : s ≤ 1024) (h2 : P ≤ 32) : 1 ≤ shW s P ∧ shW s P ≤ 11 ∧ dat s (shW s P) + P ≤ 127 ∧ ∀ m, 1 ≤ m → m < shW s P → 127 < dat s m + P :=
  fW_ok s P (by unfold dat; omega) 10 1 rfl (Nat.le_refl _) fun m h1 h2 => by omega
theorem dat_le (s n : Nat) (h : 1 ≤ n) : s ≤ dat s n * n := by
  unfold dat
  have h1 := Nat.div_add_mod (s + n - 1) n
  have h2 := Nat.mod_lt (s + n - 1) (show 0 < n by omega)
  rw [Nat.mul_comm] at h1
  omega
theorem dat_lt (s n : Nat) (h : 1 ≤ n) : dat s n * n < s + n := by
  unfold dat
  have h1 := Nat.div_add_mod (s + n - 1) n
  rw [Nat.mul_comm] at h1
  omega
theorem dat_bd {s : Nat} (n : Nat) (h : 1 ≤ n) (hs : s ≤ 1024) : dat s n ≤ 1024 := by
  have h1 := dat_lt s n h
  by_cases hle : dat s n ≤ 1024
  · exact hle
  · have : 1025 * n ≤ dat s n * n := Nat.mul_le_mul_right n (by omega)
    omega
/-- The shape of a page of so many bytes. -/
def shF (s P : Nat) : Sh := shT (shW s P) (dat s (shW s P)) P (s + shW s P * P)
theorem sh_at {H : Heap} {b : Nat} {a1 a2 a3 a4 : Int} {bk : BK} (h : H[b]? = some (.cells [.int .i64 a1, .int .i64 a2, .int .i64 a3, .int .i64 a4] bk)) : @Eq (Option (Int × Int × Int × Int × Unit)) (rd H (.agg [.int .i64, .int .i64, .int .i64, .int .i64]) b 0) (some (a1, a2, a3, a4, ())) ∧ rdI .i64 H b 0 = some a1 ∧ rdI .i64 H b 2 = some a3 ∧ rdI .i64 H b 3 = some a4 :=
  ⟨rd_agg_of h (Nat.le_refl 4) rfl, rdI_of h rfl, rdI_of h rfl, rdI_of h rfl⟩
theorem tdiv_nat (a b : Nat) : Int.tdiv (a : Int) (b : Int) = ((a / b : Nat) : Int) := rfl
theorem shapeOf_ok {s P : Nat} (h0 : 1 ≤ s) (h1 : s ≤ 1024) (h2 : 2 ≤ P) (h3 : P ≤ 32) : weave_ShapeOf (s : Int) (P : Int) = some (shF s P, true, ()) := by
  obtain ⟨w1, w2, w3, w4⟩ := shW_ok h1 h3
  unfold shF
  generalize shW s P = W at w1 w2 w3 w4
  have hdat : ∀ n : Nat, 1 ≤ n → n ≤ 11 → IntKind.wrap .i64 (Int.tdiv (IntKind.wrap .i64 ((IntKind.wrap .i64 ((s : Int) + (n : Int))) - 1)) (n : Int)) = ((dat s n : Nat) : Int) := fun n hn hn2 => by
    rw [wrap_i64 (n := (s : Int) + (n : Int)) (by omega) (by omega), wrap_i64 (n := (s : Int) + (n : Int) - 1) (by omega) (by omega), show (s : Int) + (n : Int) - 1 = ((s + n - 1 : Nat) : Int) by omega, tdiv_nat]
    have := dat_bd n hn h1
    show IntKind.wrap .i64 ((dat s n : Nat) : Int) = _
    generalize dat s n = z at this
    exact wrap_i64 (by omega) (by omega)
  obtain ⟨x, G, l1, rfl, rfl⟩ := loop_rise (step := weave_ShapeOf.s1 (s : Int) (P : Int)) (W - 1) (fun i y G => G = [Blk.cells [.int .i64 0, .int .i64 0, .int .i64 0, .int .i64 0] .exact] ∧ y = (((i + 1 : Nat) : Int), ())) (fun x G => G = [Blk.cells [.int .i64 0, .int .i64 0, .int .i64 0, .int .i64 0] .exact] ∧ x = ((W : Int), ()))
    (by
      rintro i _ G hi ⟨rfl, rfl⟩
      left
      have hd := w4 (i + 1) (by omega) (by omega)
      have hb := dat_bd (i + 1) (by omega) h1
      refine ⟨_, _, ?_, rfl, rfl⟩
      unfold weave_ShapeOf.s1
      simp only [decide_eq_false (show ¬ ((i + 1 : Nat) : Int) = 0 by omega), cond_f, hdat (i + 1) (by omega) (by omega), wrap_i64 (n := ((dat s (i + 1) : Nat) : Int) + (P : Int)) (by omega) (by omega), decide_eq_true (show (127 : Int) < ((dat s (i + 1) : Nat) : Int) + (P : Int) by omega), cond_t, wrap_succ (show i + 1 < 9223372036854775807 by omega)])
    (by
      rintro _ G ⟨rfl, rfl⟩
      refine ⟨_, _, ?_, rfl, rfl⟩
      have hW : W - 1 + 1 = W := by omega
      rw [hW]
      unfold weave_ShapeOf.s1
      have hb := dat_bd W w1 h1
      simp only [decide_eq_false (show ¬ (W : Int) = 0 by omega), cond_f, hdat W w1 w2, wrap_i64 (n := ((dat s W : Nat) : Int) + (P : Int)) (by omega) (by omega), decide_eq_false (show ¬ (127 : Int) < ((dat s W : Nat) : Int) + (P : Int) by omega)])
    (y := (((0 + 1 : Nat) : Int), ())) (H := [Blk.cells [.int .i64 0, .int .i64 0, .int .i64 0, .int .i64 0] .exact]) ⟨rfl, rfl⟩
  have l1' : loopW (weave_ShapeOf.s1 (s : Int) (P : Int)) (1, ()) ([] ++ [Blk.cells [.int .i64 0, .int .i64 0, .int .i64 0, .int .i64 0] .exact]) = some (((W : Int), ()), [Blk.cells [.int .i64 0, .int .i64 0, .int .i64 0, .int .i64 0] .exact]) := l1
  have hP : W * P ≤ 11 * 32 := Nat.mul_le_mul w2 h3
  have hmul : (W : Int) * (P : Int) = ((W * P : Nat) : Int) := (Int.natCast_mul W P).symm
  have hR : IntKind.wrap .i64 ((s : Int) + (IntKind.wrap .i64 ((W : Int) * (P : Int)))) = ((s + W * P : Nat) : Int) := by
    rw [hmul, wrap_i64 (n := ((W * P : Nat) : Int)) (by omega) (by omega), wrap_i64 (by omega) (by omega)]; omega
  unfold weave_ShapeOf weave_ShapeOf.on
  simp only [decide_eq_false (show ¬ (s : Int) < 1 by omega), decide_eq_false (show ¬ (1024 : Int) < (s : Int) by omega), decide_eq_false (show ¬ (P : Int) < 2 by omega), decide_eq_false (show ¬ (32 : Int) < (P : Int) by omega), cond_f, l1', bind_some, decide_eq_false (show ¬ (W : Int) = 0 by omega), hdat W w1 w2, hR]
  rfl
theorem shapeOf_no {s P : Int} (h : s < 1 ∨ 1024 < s ∨ P < 2 ∨ 32 < P) : weave_ShapeOf s P = some (shT 0 0 0 0, false, ()) := by
  unfold weave_ShapeOf weave_ShapeOf.on
  by_cases c1 : s < 1
  · rw [decide_eq_true c1]; rfl
  rw [decide_eq_false c1]
  by_cases c2 : 1024 < s
  · rw [decide_eq_true c2]; rfl
  rw [decide_eq_false c2]
  by_cases c3 : P < 2
  · rw [decide_eq_true c3]; rfl
  rw [decide_eq_false c3, decide_eq_true (show 32 < P by omega)]; rfl
/-- What a shape is good for. -/
structure ShOK (s P W D : Nat) : Prop where
  s0 : 1 ≤ s
  s1 : s ≤ 1024
  p0 : 2 ≤ P
  p1 : P ≤ 32
  w : W = shW s P
  d : D = dat s W
theorem ShOK.wd {s P W D : Nat} (h : ShOK s P W D) : 1 ≤ W ∧ W ≤ 11 ∧ D + P ≤ 127 ∧ ∀ m, 1 ≤ m → m < W → 127 < dat s m + P := by
  have := shW_ok h.s1 h.p1
  rw [h.d, h.w]; exact this
theorem ShOK.sW {s P W D : Nat} (h : ShOK s P W D) : W ≤ s := by
  obtain ⟨w1, w2, w3, w4⟩ := h.wd
  have := h.s0
  by_cases hw : W = 1
  · omega
  · have h1 := w4 (W - 1) (by omega) (by omega)
    have h2 := dat_lt s (W - 1) (by omega)
    have h3 : 96 * (W - 1) ≤ dat s (W - 1) * (W - 1) := Nat.mul_le_mul_right _ (by have := h.p1; omega)
    omega
theorem ShOK.r {s P W D : Nat} (h : ShOK s P W D) : W * P ≤ 352 := Nat.mul_le_mul h.wd.2.1 h.p1
theorem ShOK.sub {s P W D : Nat} (h : ShOK s P W D) : IntKind.wrap .i64 (((s + W * P : Nat) : Int) - (IntKind.wrap .i64 ((W : Int) * (P : Int)))) = (s : Int) := by
  have := h.r
  have := h.s1
  have hmul : (W : Int) * (P : Int) = ((W * P : Nat) : Int) := (Int.natCast_mul W P).symm
  rw [hmul, wrap_i64 (n := ((W * P : Nat) : Int)) (by omega) (by omega), wrap_i64 (by omega) (by omega)]; omega
theorem fits_ok {s P W D : Nat} (h : ShOK s P W D) : weave_fits (shT W D P (s + W * P)) = some (true, ()) := by
  have hs := shapeOf_ok h.s0 h.s1 h.p0 h.p1
  have hsub := h.sub
  have hw := h.w
  have hd := h.d
  unfold shF at hs
  rw [← hw, ← hd] at hs
  unfold weave_fits weave_fits.on shT
  have r1 : rdI .i64 ([] ++ [Blk.cells [.int .i64 (W : Int), .int .i64 (D : Int), .int .i64 (P : Int), .int .i64 ((s + W * P : Nat) : Int)] .exact]) ([] : Heap).length 3 = some ((s + W * P : Nat) : Int) := rfl
  have r2 : rdI .i64 ([] ++ [Blk.cells [.int .i64 (W : Int), .int .i64 (D : Int), .int .i64 (P : Int), .int .i64 ((s + W * P : Nat) : Int)] .exact]) ([] : Heap).length 0 = some (W : Int) := rfl
  have r3 : rdI .i64 ([] ++ [Blk.cells [.int .i64 (W : Int), .int .i64 (D : Int), .int .i64 (P : Int), .int .i64 ((s + W * P : Nat) : Int)] .exact]) ([] : Heap).length 2 = some (P : Int) := rfl
  simp only [r1, bind_some, r2, r3, hsub, hs]
  show some (((decide ((W : Int) = (W : Int))) && ((decide ((D : Int) = (D : Int))) && ((decide ((P : Int) = (P : Int))) && ((decide (((s + W * P : Nat) : Int) = ((s + W * P : Nat) : Int))) && true)))), ()) = _
  simp

/-! Masks. -/
def lf (x : Nat) : Nat := x / 2 ^^^ (if x % 2 = 1 then 46080 else 0)
def lfN : Nat → Nat → Nat
  | 0, x => x
  | k + 1, x => lf (lfN k x)
theorem lf_lt {x : Nat} (h : x < 65536) : lf x < 65536 := by
  unfold lf
  refine Nat.xor_lt_two_pow (n := 16) (by show x / 2 < 65536; omega) ?_
  split <;> decide
theorem lfN_lt {x : Nat} (h : x < 65536) : ∀ k, lfN k x < 65536
  | 0 => h
  | k + 1 => lf_lt (lfN_lt h k)
def mseed (x : Int) : Nat := ((x % 65536).toNat * 40503 % 65536) ^^^ 44257
def mstart (x : Int) : Nat := if mseed x = 0 then 44257 else mseed x
theorem mseed_lt (x : Int) : mseed x < 65536 := Nat.xor_lt_two_pow (n := 16) (Nat.mod_lt _ (by decide)) (by decide)
theorem mstart_lt (x : Int) : mstart x < 65536 := by
  unfold mstart
  split
  · decide
  · exact mseed_lt x
def mkB (x : Int) (i : Nat) : UInt8 := UInt8.ofNat (lfN (8 * (i + 1)) (mstart x))
/-- Bytes that look like chance. -/
def maskF (x : Int) (n : Nat) : Bytes := pl n (mkB x)
theorem maskF_len (x : Int) (n : Nat) : (maskF x n).length = n := pl_len _ _
theorem xor16 {a b : Nat} (ha : a < 65536) (hb : b < 65536) : bitsI .xor .u16 (a : Int) (b : Int) = ((a ^^^ b : Nat) : Int) := xor_nat rfl ha hb
theorem wstart (x : Int) : bitsI .xor .u16 44257 (IntKind.wrap .u16 (IntKind.wrap .u64 ((IntKind.wrap .u64 x) * 40503))) = ((mseed x : Nat) : Int) := by
  have h : IntKind.wrap .u16 (IntKind.wrap .u64 ((IntKind.wrap .u64 x) * 40503)) = (((x % 65536).toNat * 40503 % 65536 : Nat) : Int) := by
    rw [wrap_u16, wrap_u64, wrap_u64]; omega
  rw [h]
  have h2 := xor16 (a := 44257) (b := (x % 65536).toNat * 40503 % 65536) (by decide) (Nat.mod_lt _ (by decide))
  have h2' : bitsI .xor .u16 44257 (((x % 65536).toNat * 40503 % 65536 : Nat) : Int) = _ := h2
  rw [h2', Nat.xor_comm]; rfl
theorem wr16 (x : Nat) : Int.fdiv (x : Int) (2 ^ (min (Int.toNat 1) (IntKind.bits .u16))) = ((x / 2 : Nat) : Int) := by
  rw [show (2 : Int) ^ (min (Int.toNat 1) (IntKind.bits .u16)) = ((2 : Nat) : Int) from rfl, fdiv_nat]
theorem and16 {x : Nat} (hx : x < 65536) : bitsI .and .u16 (x : Int) 1 = ((x % 2 : Nat) : Int) := by
  have := and_nat (k := .u16) rfl (a := x) (b := 1) hx (by decide)
  rw [Nat.and_one_is_mod] at this
  exact this
theorem mask_bits {x : Nat} (hx : x < 65536) (H : Heap) : loopW weave_Mask.s1 ((x : Int), 0, ()) H = some ((((lfN 8 x : Nat) : Int), ()), H) :=
  loop_for' 8 (fun i => (((lfN i x : Nat) : Int), (i : Int), ())) (fun _ => H) rfl rfl (fun i hi => by
    have hl := lfN_lt hx i
    unfold weave_Mask.s1
    simp only [decide_eq_true (show (i : Int) < 8 by omega), cond_t, and16 hl, wr16, wrap_succ (show i < 9223372036854775807 by omega)]
    rw [lfN, lf]
    by_cases hb : lfN i x % 2 = 1
    · have h2 : bitsI .xor .u16 ((lfN i x / 2 : Nat) : Int) 46080 = ((lfN i x / 2 ^^^ 46080 : Nat) : Int) := xor16 (b := 46080) (by omega) (by decide)
      rw [decide_eq_true (show ((lfN i x % 2 : Nat) : Int) = 1 by omega), cond_t, if_pos hb, h2]
    · rw [decide_eq_false (show ¬ ((lfN i x % 2 : Nat) : Int) = 1 by omega), cond_f, if_neg hb, Nat.xor_zero]) (by
    unfold weave_Mask.s1
    simp only [decide_eq_false (show ¬ ((8 : Nat) : Int) < 8 by omega), cond_f])
theorem lfN_add (a : Nat) (x : Nat) : ∀ b, lfN b (lfN a x) = lfN (a + b) x
  | 0 => rfl
  | b + 1 => by rw [lfN, lfN_add a x b]; rfl
theorem un_ofNat (n : Nat) : IntKind.wrap .u8 (n : Int) = un (UInt8.ofNat n) := by
  rw [wrap_u8]
  show _ = (((UInt8.ofNat n).toNat : Nat) : Int)
  rw [UInt8.toNat_ofNat']
  omega
theorem maxI0 (n : Int) : (if (0 : Int) > n then 0 else n) = ((n.toNat : Nat) : Int) := by split <;> omega
theorem strOf_exact {H : Heap} {c n : Nat} {f : Nat → UInt8} (h : BAt H c n f) : strOf H ⟨some (c, 0), n, n⟩ = some (pl n f) := by
  unfold strOf
  rw [h.poly.row.row]
  exact bytes_of_cells _
theorem bat_new (n : Nat) (f : Nat → UInt8) : BAt ([] ++ [.cells (arrC n fun _ => [.int .u8 (un 0)]) .exact]) 0 n (fun k => if k < 0 then f k else 0) := by
  unfold BAt
  rw [List.nil_append]
  show some (Blk.cells _ _) = _
  congr 2
theorem mask_eq (x k : Int) (hk : k < 1000000) : weave_Mask x k = some (maskF x k.toNat, ()) := by
  unfold weave_Mask weave_Mask.on
  have hst : (cond (decide ((bitsI .xor .u16 44257 (IntKind.wrap .u16 (IntKind.wrap .u64 ((IntKind.wrap .u64 x) * 40503)))) = 0)) (some (((44257 : Int), ()), ([] : Heap))) (some (((bitsI .xor .u16 44257 (IntKind.wrap .u16 (IntKind.wrap .u64 ((IntKind.wrap .u64 x) * 40503)))), ()), [])) : Option ((Int × Unit) × Heap)) = some ((((mstart x : Nat) : Int), ()), []) := by
    rw [wstart]
    unfold mstart
    by_cases h : mseed x = 0
    · rw [if_pos h, decide_eq_true (by omega)]; rfl
    · rw [if_neg h, decide_eq_false (by omega)]; rfl
  rw [hst]
  have hn : k.toNat ≤ 35184372088832 := by omega
  simp only [bind_some, maxI0, mk_bytes (H := []) hn]
  generalize hN : k.toNat = n at *
  obtain ⟨u, G, l1, g1⟩ := loop_rise (step := weave_Mask.s2 (⟨some (0, 0), n, n⟩, [] ++ [.cells (arrC n fun _ => [.int .u8 (un 0)]) .exact])) n (fun i y G => y = (((lfN (8 * i) (mstart x) : Nat) : Int), (i : Int), ()) ∧ BAt G 0 n fun k => if k < i then mkB x k else 0) (fun _ G => BAt G 0 n (mkB x))
    (by
      rintro i _ G hi ⟨rfl, g1⟩
      left
      obtain ⟨G2, a1, a2, a3⟩ := g1.set (i := i) hi (mkB x i)
      have hl := lfN_lt (mstart_lt x) (8 * i)
      refine ⟨(((lfN (8 * (i + 1)) (mstart x) : Nat) : Int), ((i + 1 : Nat) : Int), ()), G2, ?_, rfl, a2.congr fun k hk => ?_⟩
      · have hm := mask_bits hl G
        rw [lfN_add] at hm
        have ha1 : wr G 0 i [.int .u8 (IntKind.wrap .u8 ((lfN (8 * i + 8) (mstart x) : Nat) : Int))] = some G2 := by rw [un_ofNat]; exact a1
        unfold weave_Mask.s2
        simp only [decide_eq_true (show (i : Int) < (n : Int) by omega), cond_t, hm, bind_some, BAt.at hi, ha1, wrap_succ (show i < 9223372036854775807 by omega)]
        rfl
      · by_cases e : k = i
        · rw [if_pos e, if_pos (by omega), e]
        · rw [if_neg e]
          by_cases h2 : k < i
          · rw [if_pos h2, if_pos (by omega)]
          · rw [if_neg h2, if_neg (by omega)])
    (by
      rintro _ G ⟨rfl, g1⟩
      refine ⟨(), G, ?_, g1.congr fun k hk => by rw [if_pos hk]⟩
      unfold weave_Mask.s2
      simp only [decide_eq_false (show ¬ ((n : Nat) : Int) < (n : Int) by omega), cond_f])
    (y := (((lfN (8 * 0) (mstart x) : Nat) : Int), ((0 : Nat) : Int), ())) (H := [] ++ [.cells (arrC n fun _ => [.int .u8 (un 0)]) .exact]) ⟨rfl, bat_new n _⟩
  have l1' : loopW (weave_Mask.s2 (⟨some (([] : Heap).length, 0), n, n⟩, [] ++ [.cells (arrC n fun _ => [.int .u8 (un 0)]) .exact])) (((mstart x : Nat) : Int), 0, ()) ([] ++ [.cells (arrC n fun _ => [.int .u8 (un 0)]) .exact]) = some (u, G) := l1
  have hs : strOf G ⟨some (([] : Heap).length, 0), n, n⟩ = some (pl n (mkB x)) := strOf_exact g1
  simp only [l1', bind_some, hs]
  rfl

/-! Mixing. -/
def mixF (a b : Bytes) : Bytes := pl (min a.length b.length) fun k => co a k ^^^ co b k
theorem mixF_len (a b : Bytes) : (mixF a b).length = min a.length b.length := pl_len _ _
theorem mixF_twice {a b : Bytes} (h : a.length = b.length) : mixF (mixF a b) b = a := by
  unfold mixF
  rw [pl_len, h, Nat.min_self, Nat.min_self]
  have : a = pl b.length (co a) := by rw [← h, pl_co]
  rw [this, ← this]
  refine (pl_congr fun k hk => ?_).trans this.symm
  rw [co_pl, if_pos hk, UInt8.xor_assoc, UInt8.xor_self, UInt8.xor_zero]
theorem mix_eq (a b : Bytes) (ha : a.length < 1000000) (hb : b.length < 1000000) : weave_Mix a b = some (mixF a b, ()) := by
  unfold weave_Mix weave_Mix.on
  have hn : (if (b.length : Int) < (a.length : Int) then (b.length : Int) else (a.length : Int)) = ((min a.length b.length : Nat) : Int) := by split <;> omega
  rw [hn]
  unfold mixF
  generalize hN : min a.length b.length = n
  have hmk := mk_bytes (H := []) (show n ≤ 35184372088832 by omega)
  obtain ⟨u, G, l1, g1⟩ := loop_rise (step := weave_Mix.s1 a b (⟨some (0, 0), n, n⟩, [] ++ [.cells (arrC n fun _ => [.int .u8 (un 0)]) .exact])) n (fun i y G => y = ((i : Int), ()) ∧ BAt G 0 n fun k => if k < i then co a k ^^^ co b k else 0) (fun _ G => BAt G 0 n fun k => co a k ^^^ co b k)
    (by
      rintro i _ G hi ⟨rfl, g1⟩
      left
      obtain ⟨G2, a1, a2, a3⟩ := g1.set (i := i) hi (co a i ^^^ co b i)
      refine ⟨(((i + 1 : Nat) : Int), ()), G2, ?_, rfl, a2.congr fun k hk => ?_⟩
      · have hia : i < a.length := by omega
        have hib : i < b.length := by omega
        have e1 : idxS a (i : Int) = some (un (co a i)) := by rw [idx_of hia, co_lt hia]
        have e2 : idxS b (i : Int) = some (un (co b i)) := by rw [idx_of hib, co_lt hib]
        unfold weave_Mix.s1
        simp only [decide_eq_true (show (i : Int) < (n : Int) by omega), cond_t, e1, e2, bind_some, BAt.at hi, un_xor, a1, wrap_succ (show i < 9223372036854775807 by omega)]
      · by_cases e : k = i
        · rw [if_pos e, if_pos (by omega), e]
        · rw [if_neg e]
          by_cases h2 : k < i
          · rw [if_pos h2, if_pos (by omega)]
          · rw [if_neg h2, if_neg (by omega)])
    (by
      rintro _ G ⟨rfl, g1⟩
      refine ⟨(), G, ?_, g1.congr fun k hk => by rw [if_pos hk]⟩
      unfold weave_Mix.s1
      simp only [decide_eq_false (show ¬ ((n : Nat) : Int) < (n : Int) by omega), cond_f])
    (y := (((0 : Nat) : Int), ())) (H := [] ++ [.cells (arrC n fun _ => [.int .u8 (un 0)]) .exact]) ⟨rfl, bat_new n _⟩
  have l1' : loopW (weave_Mix.s1 a b (⟨some (([] : Heap).length, 0), n, n⟩, [] ++ [.cells (arrC n fun _ => [.int .u8 (un 0)]) .exact])) (0, ()) ([] ++ [.cells (arrC n fun _ => [.int .u8 (un 0)]) .exact]) = some (u, G) := l1
  have hs : strOf G ⟨some (([] : Heap).length, 0), n, n⟩ = some (pl n fun k => co a k ^^^ co b k) := strOf_exact g1
  simp only [hmk, bind_some, l1', hs]

/-! Erased bytes. -/
def pc : Nat → Nat → Nat
  | 0, _ => 0
  | k + 1, b => if b = 0 then 0 else pc k (b &&& (b - 1)) + 1
/-- How many bits of a byte are not set. -/
def zb (c : UInt8) : Nat := pc 9 (c.toNat ^^^ 255)
theorem pc_end : ∀ b, b < 256 → pc 9 b = pc 10 b ∧ pc 9 b ≤ 8 := by decide +kernel
theorem and_pred_lt : ∀ b, b < 256 → b &&& (b - 1) < 256 := by decide +kernel
theorem er_iter : ∀ (k : Nat) (n b : Nat) (H : Heap), b < 256 → pc k b < k → n + k < 1000000000 → ∃ j, iter weave_Erased.s1 j ((n : Int), (b : Int), ()) H = some ((((n + pc k b : Nat) : Int), ()), H)
  | 0, _, _, _, _, h, _ => absurd h (Nat.not_lt_zero _)
  | k + 1, n, b, H, hb, hk, hn => by
    by_cases h0 : b = 0
    · subst h0
      refine ⟨1, ?_⟩
      rw [iter]
      unfold weave_Erased.s1
      simp only [decide_eq_false (show ¬ (0 : Int) < ((0 : Nat) : Int) by omega), cond_f, pc, if_true, Nat.add_zero]
      rfl
    · rw [pc, if_neg h0] at hk
      obtain ⟨j, hj⟩ := er_iter k (n + 1) (b &&& (b - 1)) H (and_pred_lt b hb) (by omega) (by omega)
      refine ⟨j + 1, ?_⟩
      have hand : bitsI .and .u8 (b : Int) (IntKind.wrap .u8 ((b : Int) - 1)) = ((b &&& (b - 1) : Nat) : Int) := by
        have : IntKind.wrap .u8 ((b : Int) - 1) = ((b - 1 : Nat) : Int) := by rw [wrap_u8]; omega
        rw [this, and8 hb (by omega)]
      have hstep : weave_Erased.s1 ((n : Int), (b : Int), ()) H = some (.inl (((n + 1 : Nat) : Int), ((b &&& (b - 1) : Nat) : Int), ()), H) := by
        unfold weave_Erased.s1
        simp only [decide_eq_true (show (0 : Int) < (b : Int) by omega), cond_t, hand, wrap_succ (show n < 9223372036854775807 by omega)]
      rw [iter, hstep]
      show iter weave_Erased.s1 j _ H = _
      rw [hj, pc, if_neg h0, show n + 1 + pc k (b &&& (b - 1)) = n + (pc k (b &&& (b - 1)) + 1) by omega]
/-- How many bits are not set. -/
def zbs : Bytes → Nat
  | [] => 0
  | c :: r => zb c + zbs r
theorem zb_le (c : UInt8) : zb c ≤ 8 := (pc_end _ (xor_lt c.toNat_lt (by decide))).2
theorem zbs_le : ∀ s, zbs s ≤ 8 * s.length
  | [] => Nat.le_refl 0
  | c :: r => by
    have := zb_le c
    have := zbs_le r
    rw [zbs, List.length_cons]; omega
theorem zbs_snoc (t : Bytes) (c : UInt8) : zbs (t ++ [c]) = zbs t + zb c := by
  induction t with
  | nil => simp [zbs]
  | cons x r ih => rw [List.cons_append, zbs, ih, zbs]; omega
theorem erased_eq (s : Bytes) (few : Int) (hs : s.length < 1000000) : weave_Erased s few = some (decide ((zbs s : Int) ≤ few), ()) := by
  have l1 : loopW (weave_Erased.s2 s) (0, 0, ()) [] = some ((((zbs s : Nat) : Int), ()), []) := loop_for' s.length (fun i => (((zbs (s.take i) : Nat) : Int), (i : Int), ())) (fun _ => []) rfl rfl (fun i hi => by
      have hz := zbs_le (s.take i)
      rw [List.length_take] at hz
      have hx : (co s i).toNat ^^^ 255 < 256 := xor_lt (co s i).toNat_lt (by decide)
      have hpe := pc_end _ hx
      obtain ⟨j, hj⟩ := er_iter 10 (zbs (s.take i)) ((co s i).toNat ^^^ 255) [] hx (by omega) (by omega)
      have hidx : idxS s (i : Int) = some (un (co s i)) := by rw [idx_of hi, co_lt hi]
      have hxr : bitsI .xor .u8 (un (co s i)) 255 = (((co s i).toNat ^^^ 255 : Nat) : Int) := xor8 (b := 255) (co s i).toNat_lt (by decide)
      have hl := loopW_eq hj
      unfold weave_Erased.s2
      simp only [decide_eq_true (show (i : Int) < (s.length : Int) by omega), cond_t, hidx, bind_some, hxr, hl, wrap_succ (show i < 9223372036854775807 by omega)]
      rw [List.take_succ_eq_append_getElem hi, zbs_snoc, ← co_lt hi, ← hpe.1]; rfl) (by
      unfold weave_Erased.s2
      simp only [decide_eq_false (show ¬ ((s.length : Nat) : Int) < (s.length : Int) by omega), cond_f, List.take_length])
  unfold weave_Erased weave_Erased.on
  simp only [l1, bind_some]
end Ev
namespace Ev
open Go (IntKind)

/-! Words. -/
def pt (s : Bytes) (W n : Nat) : Bytes := partL s W s.length n
def wl (L W n : Nat) : Nat := (L - n + W - 1) / W
theorem partL_co (s : Bytes) (W : Nat) (hW : 1 ≤ W) : ∀ (f i : Nat), s.length ≤ i + f → (partL s W f i).length = wl s.length W i ∧ ∀ k, co (partL s W f i) k = co s (i + k * W)
  | 0, i, h => by
    have h0 : s.length - i = 0 := by omega
    refine ⟨?_, fun k => ?_⟩
    · show 0 = _
      unfold wl
      rw [h0, Nat.zero_add, Nat.div_eq_of_lt (by omega)]
    · rw [co_ge (p := s) (by omega)]; exact co_ge (Nat.zero_le _)
  | f + 1, i, h => by
    rw [partL]
    by_cases hi : i < s.length
    · obtain ⟨h1, h2⟩ := partL_co s W hW f (i + W) (by omega)
      rw [if_pos hi]
      refine ⟨?_, fun k => ?_⟩
      · rw [List.length_cons, h1]
        unfold wl
        by_cases hw : i + W ≤ s.length
        · rw [show s.length - i + W - 1 = (s.length - (i + W) + W - 1) + W by omega, Nat.add_div_right _ (by omega)]
        · rw [show s.length - (i + W) = 0 by omega, Nat.zero_add, Nat.div_eq_of_lt (show W - 1 < W by omega)]
          rw [show s.length - i + W - 1 = (s.length - i - 1) + W by omega, Nat.add_div_right _ (by omega), Nat.div_eq_of_lt (by omega)]
      · cases k with
        | zero => rw [Nat.zero_mul, Nat.add_zero]; rfl
        | succ k =>
          rw [Nat.succ_mul, show i + (k * W + W) = i + W + k * W by omega, ← h2 k]; rfl
    · rw [if_neg hi]
      refine ⟨?_, fun k => ?_⟩
      · show 0 = _
        unfold wl
        rw [show s.length - i = 0 by omega, Nat.zero_add, Nat.div_eq_of_lt (by omega)]
      · rw [co_ge (p := s) (by omega)]; exact co_ge (Nat.zero_le _)
theorem pt_len (s : Bytes) {W : Nat} (hW : 1 ≤ W) (n : Nat) : (pt s W n).length = wl s.length W n := (partL_co s W hW s.length n (by omega)).1
theorem pt_co (s : Bytes) {W : Nat} (hW : 1 ≤ W) (n k : Nat) : co (pt s W n) k = co s (n + k * W) := (partL_co s W hW s.length n (by omega)).2 k
theorem part_eq {s : Bytes} {W : Nat} (D P R : Int) {n : Nat} (hs : s.length ≤ 1099511627776) (hW : 1 ≤ W) (hW2 : W ≤ 1099511627776) (hn : n ≤ 1099511627776) : weave_part s ((W : Int), D, P, R, ()) (n : Int) = some (pt s W n, ()) := by
  unfold weave_part
  have hd : decide (s.length ≤ 1099511627776 ∧ 1 ≤ ((W : Int), D, P, R, ()).1 ∧ ((W : Int), D, P, R, ()).1 ≤ 1099511627776 ∧ 0 ≤ (n : Int) ∧ (n : Int) ≤ 1099511627776) = true := decide_eq_true ⟨hs, by show (1 : Int) ≤ (W : Int); omega, by show (W : Int) ≤ _; omega, by omega, by omega⟩
  rw [hd, cond_t]; rfl
theorem wl_le {L W n : Nat} : wl L W n ≤ dat L W := Nat.div_le_div_right (by omega)
theorem wl_pos {L W n : Nat} (hW : 1 ≤ W) (h : n < L) : 1 ≤ wl L W n := by
  unfold wl
  rw [show L - n + W - 1 = (L - n - 1) + W by omega, Nat.add_div_right _ (by omega)]
  exact Nat.le_add_left 1 _
/-- A place of a word: is it one of the page? -/
theorem wl_lt {L W n k : Nat} (hW : 1 ≤ W) : k < wl L W n ↔ n + k * W < L := by
  unfold wl
  rw [show (k < (L - n + W - 1) / W ↔ n + k * W < L) = (k + 1 ≤ (L - n + W - 1) / W ↔ n + k * W < L) from rfl, Nat.le_div_iff_mul_le (by omega), Nat.succ_mul]
  omega
theorem wl_add {L W n : Nat} (P : Nat) (hW : 1 ≤ W) (h : n < L) : wl (L + W * P) W n = wl L W n + P := by
  unfold wl
  rw [show L + W * P - n + W - 1 = (L - n + W - 1) + W * P by omega, Nat.add_mul_div_left _ _ (by omega)]

/-! How a page is kept. -/
def tF (s : Bytes) (seed : Int) : Bytes := mixF s (maskF seed s.length)
theorem tF_len (s : Bytes) (seed : Int) : (tF s seed).length = s.length := by unfold tF; rw [mixF_len, maskF_len, Nat.min_self]
def tlB (t : Bytes) (W P : Nat) (i : Nat) : UInt8 := co (tailF (pt t W ((t.length + i) % W)) P) (i / W)
def rawT (t : Bytes) (W P : Nat) : Bytes := pl (t.length + W * P) fun k => if k < t.length then co t k else tlB t W P (k - t.length)
def rawF (s : Bytes) (W P : Nat) (seed : Int) : Bytes := rawT (tF s seed) W P
theorem rawT_len (t : Bytes) (W P : Nat) : (rawT t W P).length = t.length + W * P := pl_len _ _
theorem rawF_len (s : Bytes) (W P : Nat) (seed : Int) : (rawF s W P seed).length = s.length + W * P := by unfold rawF; rw [rawT_len, tF_len]
/-- Each word of it is a text with its bytes that check. -/
theorem raw_word {t : Bytes} {W P n : Nat} (hW : 1 ≤ W) (hn : n < W) (hs : W ≤ t.length) : pt (rawT t W P) W n = encF (pt t W n) P := by
  have hl1 : (pt (rawT t W P) W n).length = wl t.length W n + P := by rw [pt_len _ hW, rawT_len, wl_add P hW (by omega)]
  have hl2 : (encF (pt t W n) P).length = wl t.length W n + P := by rw [enc_len, pt_len _ hW]
  rw [← pl_co (pt (rawT t W P) W n), ← pl_co (encF (pt t W n) P), hl1, hl2]
  refine pl_congr fun k hk => ?_
  rw [pt_co _ hW]
  unfold encF
  rw [co_app, pt_len _ hW]
  unfold rawT
  have hlt : n + k * W < t.length + W * P := by
    have := (wl_lt (L := t.length + W * P) (n := n) (k := k) hW).1 (by rw [wl_add P hW (by omega)]; exact hk)
    exact this
  rw [co_pl, if_pos hlt]
  by_cases h : k < wl t.length W n
  · rw [if_pos ((wl_lt hW).1 h), if_pos h, pt_co _ hW]
  · rw [if_neg fun h2 => h ((wl_lt hW).2 h2), if_neg h]
    have h3 : ¬ n + k * W < t.length := fun h2 => h ((wl_lt hW).2 h2)
    unfold tlB
    rw [show t.length + (n + k * W - t.length) = n + k * W by omega, Nat.add_mul_mod_self_right, Nat.mod_eq_of_lt hn]
    congr 1
    -- where it stands behind the page
    have h4 : wl t.length W n * W ≤ t.length - n + W - 1 := Nat.div_mul_le_self _ _
    have h5 : ¬ n + wl t.length W n * W < t.length := fun h2 => Nat.lt_irrefl _ ((wl_lt hW).2 h2)
    obtain ⟨d, rfl⟩ : ∃ d, k = wl t.length W n + d := ⟨k - wl t.length W n, by omega⟩
    generalize wl t.length W n = m at *
    rw [Nat.add_mul, show n + (m * W + d * W) - t.length = (n + m * W - t.length) + d * W by omega, Nat.add_mul_div_right _ _ (by omega), Nat.div_eq_of_lt (by omega), Nat.zero_add, Nat.add_sub_cancel_left]
/-! In the heap. -/
def SAt (H : Heap) (c n : Nat) (f : Nat → Bytes) : Prop := H[c]? = some (.cells (arrC n fun k => [.str (f k)]) .exact)
theorem SAt.get {H : Heap} {c n : Nat} {f : Nat → Bytes} (h : SAt H c n f) {i : Nat} (hi : i < n) : rdS H c i = some (f i) := by
  have := arrC_get (f := fun k => [C.str (f k)]) (es := 1) (fun _ => rfl) (j := 0) (by decide) hi
  rw [Nat.mul_one, Nat.add_zero] at this
  exact rdS_of h this
theorem SAt.set {H : Heap} {c n : Nat} {f : Nat → Bytes} (h : SAt H c n f) {i : Nat} (hi : i < n) (x : Bytes) : ∃ G, wr H c i [.str x] = some G ∧ SAt G c n (fun k => if k = i then x else f k) ∧ Keep (fun j => j = c) H G := by
  have hl := arrC_length (f := fun k => [C.str (f k)]) (es := 1) (fun _ => rfl) n
  have hs := arrC_set (f := fun k => [C.str (f k)]) (es := 1) (fun _ => rfl) (j := 0) (by decide) (.str x) hi
  rw [Nat.mul_one, Nat.add_zero] at hs
  refine ⟨_, wr1_of h (by decide) (by omega), ?_, Keep.set _ _ _ rfl⟩
  unfold SAt
  rw [set_get (get_lt h), hs]
  congr 2
  refine arrC_congr fun k _ => ?_
  by_cases hk : k = i
  · subst hk; simp
  · simp [hk]
theorem SAt.congr {H : Heap} {c n : Nat} {f g : Nat → Bytes} (h : SAt H c n f) (hfg : ∀ k, k < n → f k = g k) : SAt H c n g := by
  unfold SAt at h ⊢
  rw [h]
  congr 2
  exact arrC_congr fun k hk => by rw [hfg k hk]
theorem mk_strs {H : Heap} {n : Nat} (h : n ≤ 1099511627776) : mkS H 16 [.str []] (n : Int) (n : Int) = some (⟨some (H.length, 0), n, n⟩, H ++ [.cells (arrC n fun _ => [.str []]) .exact]) := by
  unfold mkS
  have : decide (0 ≤ (n : Int) ∧ (n : Int) ≤ (n : Int) ∧ (n : Int).toNat * 16 ≤ maxRow ∧ (n : Int).toNat ≤ maxRow) = true := decide_eq_true ⟨by omega, by omega, by unfold maxRow; omega, by unfold maxRow; omega⟩
  rw [this, cond_t, Int.toNat_natCast]
  have : rep n [C.str []] = arrC n fun _ => [.str []] := by
    unfold rep
    clear h this
    induction n with
    | zero => rfl
    | succ n ih => rw [List.replicate_succ', List.flatten_append, ih, arrC]; rfl
  rw [this]
theorem mk_bytes0 {H : Heap} {n : Nat} (h : n ≤ 35184372088832) : mkS H 1 [.int .u8 0] 0 (n : Int) = some (⟨some (H.length, 0), 0, n⟩, H ++ [.cells (arrC n fun _ => [.int .u8 (un 0)]) .exact]) := by
  have h1 := mk_bytes (H := H) h
  unfold mkS at h1 ⊢
  have : decide (0 ≤ (n : Int) ∧ (n : Int) ≤ (n : Int) ∧ (n : Int).toNat * 1 ≤ maxRow ∧ (n : Int).toNat ≤ maxRow) = true := decide_eq_true ⟨by omega, by omega, by unfold maxRow; omega, by unfold maxRow; omega⟩
  rw [this, cond_t] at h1
  have : decide ((0 : Int) ≤ 0 ∧ (0 : Int) ≤ (n : Int) ∧ (n : Int).toNat * 1 ≤ maxRow ∧ (n : Int).toNat ≤ maxRow) = true := decide_eq_true ⟨by omega, by omega, by unfold maxRow; omega, by unfold maxRow; omega⟩
  rw [this, cond_t]
  have h2 := Option.some.inj h1
  have h3 := (Prod.mk.inj h2).2
  rw [h3]; rfl
theorem setL_bytes : ∀ (t : Bytes) (o n : Nat) (f : Nat → UInt8), o + t.length ≤ n → setL (arrC n fun k => [.int .u8 (un (f k))]) o (cellsOf t) = arrC n fun k => [.int .u8 (un (if o ≤ k ∧ k < o + t.length then co t (k - o) else f k))]
  | [], o, n, f, _ => by
    show arrC n _ = _
    refine arrC_congr fun k _ => ?_
    rw [if_neg (by simp)]
  | c :: r, o, n, f, h => by
    rw [List.length_cons] at h
    have hset := arrC_set (f := fun k => [C.int .u8 (un (f k))]) (es := 1) (fun _ => rfl) (j := 0) (by decide) (.int .u8 (un c)) (show o < n by omega)
    rw [Nat.mul_one, Nat.add_zero] at hset
    show setL ((arrC n fun k => [.int .u8 (un (f k))]).set o (.int .u8 (un c))) (o + 1) (cellsOf r) = _
    rw [hset]
    have hf : (arrC n fun k => if k = o then ([C.int .u8 (un (f o))] : List C).set 0 (.int .u8 (un c)) else [.int .u8 (un (f k))]) = arrC n fun k => [.int .u8 (un (if k = o then c else f k))] := arrC_congr fun k _ => by
      by_cases e : k = o
      · rw [if_pos e, if_pos e]; rfl
      · rw [if_neg e, if_neg e]
    rw [hf, setL_bytes r (o + 1) n _ (by omega)]
    refine arrC_congr fun k _ => ?_
    congr 3
    rw [List.length_cons]
    by_cases h1 : k = o
    · subst h1
      rw [if_neg (by omega), if_pos rfl, if_pos (by omega), Nat.sub_self]; rfl
    · by_cases h2 : o + 1 ≤ k ∧ k < o + 1 + r.length
      · rw [if_pos h2, if_pos (by omega), show k - o = (k - (o + 1)) + 1 by omega]; rfl
      · rw [if_neg h2, if_neg h1, if_neg (by omega)]
/-- One byte more, in place. -/
theorem bat_app {G : Heap} {c n m : Nat} {f : Nat → UInt8} (h : BAt G c n f) (hm : m < n) (x : UInt8) : ∃ G2, slRow (G ++ [Blk.cells [.int .u8 (un x)] .exact]) 1 ⟨some (G.length, 0), 1, 1⟩ = some [.int .u8 (un x)] ∧ appS (G ++ [Blk.cells [.int .u8 (un x)] .exact]) 1 1 ⟨some (c, 0), m, n⟩ 1 [.int .u8 (un x)] = some (⟨some (c, 0), m + 1, n⟩, G2) ∧ BAt G2 c n (fun k => if k = m then x else f k) ∧ Keep (fun j => j = c) G G2 := by
  have h' : BAt (G ++ [Blk.cells [.int .u8 (un x)] .exact]) c n f := h.keep (Keep.push (fun _ => False) G _) id
  obtain ⟨G2, a1, a2, a3⟩ := h'.set hm x
  refine ⟨G2, row_last rfl, ?_, a2, (Keep.push _ _ _).trans a3⟩
  unfold appS
  rw [decide_eq_true (show (⟨some (c, 0), m, n⟩ : Sl).len + 1 ≤ (⟨some (c, 0), m, n⟩ : Sl).cap from hm), cond_t]
  show (bif decide (1 = 0) then _ else _) = _
  rw [show decide ((1 : Nat) = 0) = false from rfl, cond_f]
  show (wr _ c (0 + m * 1) _).bind _ = _
  rw [show 0 + m * 1 = m by omega, a1]; rfl
set_option maxHeartbeats 1000000 in
theorem wencode_eq {s : Bytes} {P W D : Nat} (h : ShOK s.length P W D) (seed : Int) : weave_Encode s (shT W D P (s.length + W * P)) seed = some (rawF s W P seed, 0, ()) := by
  obtain ⟨w1, w2, w3, w4⟩ := h.wd
  have hr := h.r
  have hs0 := h.s0
  have hs1 := h.s1
  have hp0 := h.p0
  have hp1 := h.p1
  have hsW := h.sW
  have hsub := h.sub
  have hfit := fits_ok h
  have htl := tF_len s seed
  unfold rawF
  unfold weave_Encode weave_Encode.on
  have hsh : ∀ {G : Heap}, G[0]? = some (Blk.cells [.int .i64 (W : Int), .int .i64 (D : Int), .int .i64 (P : Int), .int .i64 ((s.length + W * P : Nat) : Int)] .exact) → _ := fun {G} h => sh_at h
  have h1 : ([] ++ [Blk.cells [.int .i64 (W : Int), .int .i64 (D : Int), .int .i64 (P : Int), .int .i64 ((s.length + W * P : Nat) : Int)] .exact] : Heap)[0]? = some (Blk.cells [.int .i64 (W : Int), .int .i64 (D : Int), .int .i64 (P : Int), .int .i64 ((s.length + W * P : Nat) : Int)] .exact) := rfl
  obtain ⟨r1, r2, r3, r4⟩ := hsh h1
  have hmk := mk_bytes0 (H := [Blk.cells [.int .i64 (W : Int), .int .i64 (D : Int), .int .i64 (P : Int), .int .i64 ((s.length + W * P : Nat) : Int)] .exact]) (n := s.length + W * P) (by omega)
  have hmx : weave_Mix s (maskF seed s.length) = some (tF s seed, ()) := mix_eq _ _ (by omega) (by rw [maskF_len]; omega)
  have hms := mask_eq seed (s.length : Int) (by omega)
  rw [Int.toNat_natCast] at hms
  generalize ht : tF s seed = t at *
  simp only [List.nil_append] at r1 r2 r3 r4
  simp only [shT, List.nil_append, List.length_nil, r1, bind_some]
  rw [show weave_fits ((W : Int), (D : Int), (P : Int), ((s.length + W * P : Nat) : Int), ()) = some (true, ()) from hfit]
  simp only [bind_some, Bool.not_true, cond_f, r2, r3, r4, hsub, decide_true, hms, hmx, hmk, List.length_singleton]
  -- the page's bytes, laid
  have ha : appS ([Blk.cells [.int .i64 (W : Int), .int .i64 (D : Int), .int .i64 (P : Int), .int .i64 ((s.length + W * P : Nat) : Int)] .exact] ++ [Blk.cells (arrC (s.length + W * P) fun _ => [.int .u8 (un 0)]) .exact]) 1 1 ⟨some (1, 0), 0, s.length + W * P⟩ t.length (cellsOf t) = some (⟨some (1, 0), t.length, s.length + W * P⟩, [Blk.cells [.int .i64 (W : Int), .int .i64 (D : Int), .int .i64 (P : Int), .int .i64 ((s.length + W * P : Nat) : Int)] .exact, Blk.cells (arrC (s.length + W * P) fun k => [.int .u8 (un (if k < t.length then co t k else 0))]) .exact]) := by
    unfold appS
    rw [decide_eq_true (show (⟨some (1, 0), 0, s.length + W * P⟩ : Sl).len + t.length ≤ (⟨some (1, 0), 0, s.length + W * P⟩ : Sl).cap by show 0 + t.length ≤ s.length + W * P; omega), cond_t]
    show (bif decide (t.length = 0) then _ else _) = _
    rw [decide_eq_false (show ¬ t.length = 0 by omega), cond_f]
    show (wr _ 1 (0 + 0 * 1) _).bind _ = _
    have hsl := setL_bytes t 0 (s.length + W * P) (fun _ => 0) (by omega)
    have hal := arrC_length (f := fun k => [C.int .u8 (un 0)]) (es := 1) (fun _ => rfl) (s.length + W * P)
    have hw := wr_of (H := [Blk.cells [.int .i64 (W : Int), .int .i64 (D : Int), .int .i64 (P : Int), .int .i64 ((s.length + W * P : Nat) : Int)] .exact] ++ [Blk.cells (arrC (s.length + W * P) fun _ => [.int .u8 (un 0)]) .exact]) (b := 1) (o := 0) (new := cellsOf t) rfl (show BK.exact ≠ .ro by decide) (by rw [cells_len, hal]; omega)
    rw [hw, hsl]
    show some ((⟨some (1, 0), 0 + t.length, s.length + W * P⟩ : Sl), _) = _
    rw [Nat.zero_add]
    refine congrArg some (Prod.ext rfl ?_)
    show [_, Blk.cells _ _] = [_, Blk.cells _ _]
    congr 3
    refine arrC_congr fun k _ => ?_
    rw [Nat.sub_zero]
    congr 3
    by_cases hk : k < t.length
    · rw [if_pos hk, if_pos ⟨Nat.zero_le _, hk⟩]
    · rw [if_neg hk, if_neg fun x => hk x.2]
  simp only [ha, bind_some]
  have h2 : ([Blk.cells [.int .i64 (W : Int), .int .i64 (D : Int), .int .i64 (P : Int), .int .i64 ((s.length + W * P : Nat) : Int)] .exact, Blk.cells (arrC (s.length + W * P) fun k => [.int .u8 (un (if k < t.length then co t k else 0))]) .exact] : Heap)[0]? = some (Blk.cells [.int .i64 (W : Int), .int .i64 (D : Int), .int .i64 (P : Int), .int .i64 ((s.length + W * P : Nat) : Int)] .exact) := rfl
  have hb2 : BAt [Blk.cells [.int .i64 (W : Int), .int .i64 (D : Int), .int .i64 (P : Int), .int .i64 ((s.length + W * P : Nat) : Int)] .exact, Blk.cells (arrC (s.length + W * P) fun k => [.int .u8 (un (if k < t.length then co t k else 0))]) .exact] 1 (s.length + W * P) (fun k => if k < t.length then co t k else 0) := rfl
  obtain ⟨_, r5, _, _⟩ := hsh h2
  generalize hH2 : ([Blk.cells [.int .i64 (W : Int), .int .i64 (D : Int), .int .i64 (P : Int), .int .i64 ((s.length + W * P : Nat) : Int)] .exact, Blk.cells (arrC (s.length + W * P) fun k => [.int .u8 (un (if k < t.length then co t k else 0))]) .exact] : Heap) = H2 at *
  have hl2 : H2.length = 2 := by rw [← hH2]; rfl
  have hmk2 := mk_strs (H := H2) (n := W) (by omega)
  rw [hl2] at hmk2
  simp only [r5, bind_some, hmk2]
  have hs3 : SAt (H2 ++ [Blk.cells (arrC W fun _ => [.str []]) .exact]) 2 W (fun _ => []) := by
    unfold SAt
    rw [← hl2]; exact app_last
  have hk3 : Keep (fun _ => False) H2 (H2 ++ [Blk.cells (arrC W fun _ => [.str []]) .exact]) := Keep.push _ _ _
  obtain ⟨x, G, l1, rfl, g1, g2, g3⟩ := loop_rise (step := weave_Encode.s1 [] (t, ()) (⟨some (2, 0), W, W⟩, H2 ++ [Blk.cells (arrC W fun _ => [.str []]) .exact])) W
    (fun i y G => y = ((i : Int), ()) ∧ G[0]? = some (Blk.cells [.int .i64 (W : Int), .int .i64 (D : Int), .int .i64 (P : Int), .int .i64 ((s.length + W * P : Nat) : Int)] .exact) ∧ BAt G 1 (s.length + W * P) (fun k => if k < t.length then co t k else 0) ∧ SAt G 2 W fun k => if k < i then tailF (pt t W k) P else [])
    (fun x G => x = .inl () ∧ G[0]? = some (Blk.cells [.int .i64 (W : Int), .int .i64 (D : Int), .int .i64 (P : Int), .int .i64 ((s.length + W * P : Nat) : Int)] .exact) ∧ BAt G 1 (s.length + W * P) (fun k => if k < t.length then co t k else 0) ∧ SAt G 2 W fun k => tailF (pt t W k) P)
    (by
      rintro i _ G hi ⟨rfl, g1, g2, g3⟩
      left
      obtain ⟨q1, _, q3, _⟩ := hsh g1
      obtain ⟨G2, a1, a2, a3⟩ := g3.set hi (tailF (pt t W i) P)
      have hptl : (pt t W i).length = wl s.length W i := by rw [pt_len _ w1, htl]
      have hle := wl_le (L := s.length) (W := W) (n := i)
      rw [← h.d] at hle
      have hpos := wl_pos (L := s.length) (n := i) w1 (by omega)
      have hen := encode_ok (pt t W i) P (by omega) (by omega) hp1 (by omega) (by omega)
      have hel := enc_len (pt t W i) P
      have hw : IntKind.wrap .i64 (((encF (pt t W i) P).length : Int) - (P : Int)) = (((pt t W i).length : Nat) : Int) := by rw [wrap_i64 (by omega) (by omega)]; omega
      have hsu := sub_of (s := encF (pt t W i) P) (lo := (pt t W i).length) (hi := (encF (pt t W i) P).length) (by omega) (Nat.le_refl _)
      rw [List.take_length] at hsu
      have hdr : (encF (pt t W i) P).drop (pt t W i).length = tailF (pt t W i) P := by unfold encF; exact List.drop_left
      rw [hdr] at hsu
      refine ⟨(((i + 1 : Nat) : Int), ()), G2, ?_, rfl, a3.get g1 (fun h => absurd h (by decide)), a3.get g2 (fun h => absurd h (by decide)), a2.congr fun k hk => ?_⟩
      · unfold weave_Encode.s1
        simp only [List.length_nil, decide_eq_true (show (i : Int) < (W : Int) by omega), cond_t, q1, bind_some, part_eq (D : Int) (P : Int) ((s.length + W * P : Nat) : Int) (show t.length ≤ 1099511627776 by omega) w1 (by omega) (show i ≤ 1099511627776 by omega), q3, hen, decide_true, Bool.not_true, cond_f, hw, hsu, BAt.at hi, a1, wrap_succ (show i < 9223372036854775807 by omega)]
      · by_cases e : k = i
        · rw [if_pos e, if_pos (by omega), e]
        · rw [if_neg e]
          by_cases h2 : k < i
          · rw [if_pos h2, if_pos (by omega)]
          · rw [if_neg h2, if_neg (by omega)])
    (by
      rintro _ G ⟨rfl, g1, g2, g3⟩
      refine ⟨.inl (), G, ?_, rfl, g1, g2, g3.congr fun k hk => by rw [if_pos hk]⟩
      unfold weave_Encode.s1
      simp only [decide_eq_false (show ¬ ((W : Nat) : Int) < (W : Int) by omega), cond_f])
    (y := (((0 : Nat) : Int), ())) (H := H2 ++ [Blk.cells (arrC W fun _ => [.str []]) .exact]) ⟨rfl, hk3.get h2 id, hk3.get hb2 id, hs3.congr fun k _ => by rw [if_neg (Nat.not_lt_zero _)]⟩
  have l1' : loopW (weave_Encode.s1 [] (t, ()) (⟨some (2, 0), W, W⟩, H2 ++ [Blk.cells (arrC W fun _ => [.str []]) .exact])) (0, ()) (H2 ++ [Blk.cells (arrC W fun _ => [.str []]) .exact]) = some (.inl (), G) := l1
  obtain ⟨_, r6, r7, _⟩ := hsh g1
  simp only [l1', bind_some, sumL, r6, r7]
  have hWP : IntKind.wrap .i64 ((W : Int) * (P : Int)) = ((W * P : Nat) : Int) := by
    have hmul : (W : Int) * (P : Int) = ((W * P : Nat) : Int) := (Int.natCast_mul W P).symm
    rw [hmul, wrap_i64 (by omega) (by omega)]
  obtain ⟨y, G', l2, rfl, e1⟩ := loop_rise (step := weave_Encode.s2 s [] (⟨some (2, 0), W, W⟩, H2 ++ [Blk.cells (arrC W fun _ => [.str []]) .exact]) (W : Int) (P : Int)) (W * P)
    (fun i y G => y = (⟨some (1, 0), t.length + i, s.length + W * P⟩, (i : Int), ()) ∧ G[0]? = some (Blk.cells [.int .i64 (W : Int), .int .i64 (D : Int), .int .i64 (P : Int), .int .i64 ((s.length + W * P : Nat) : Int)] .exact) ∧ BAt G 1 (s.length + W * P) (fun k => if k < t.length + i then (if k < t.length then co t k else tlB t W P (k - t.length)) else 0) ∧ SAt G 2 W fun k => tailF (pt t W k) P)
    (fun y G => y = (⟨some (1, 0), t.length + W * P, s.length + W * P⟩, ()) ∧ BAt G 1 (s.length + W * P) (fun k => if k < t.length then co t k else tlB t W P (k - t.length)))
    (by
      rintro i _ G hi ⟨rfl, g1, g2, g3⟩
      left
      obtain ⟨_, q2, _, _⟩ := hsh g1
      have hmod : (t.length + i) % W < W := Nat.mod_lt _ (by omega)
      have hdiv : i / W < P := Nat.div_lt_of_lt_mul hi
      have htm : Int.tmod (IntKind.wrap .i64 ((s.length : Int) + (i : Int))) (W : Int) = (((t.length + i) % W : Nat) : Int) := by
        rw [wrap_i64 (by omega) (by omega), show (s.length : Int) + (i : Int) = ((t.length + i : Nat) : Int) by omega]; rfl
      have htd : IntKind.wrap .i64 (Int.tdiv (i : Int) (W : Int)) = ((i / W : Nat) : Int) := by
        rw [tdiv_nat]
        generalize i / W = z at hdiv
        exact wrap_i64 (by omega) (by omega)
      have htll : (tailF (pt t W ((t.length + i) % W)) P).length = P := pl_len _ _
      have hidx : idxS (tailF (pt t W ((t.length + i) % W)) P) ((i / W : Nat) : Int) = some (un (tlB t W P i)) := by
        rw [idx_of (by omega)]
        unfold tlB
        rw [co_lt (by omega)]
      obtain ⟨G2, a1, a2, a3, a4⟩ := bat_app g2 (m := t.length + i) (by omega) (tlB t W P i)
      refine ⟨(⟨some (1, 0), t.length + (i + 1), s.length + W * P⟩, ((i + 1 : Nat) : Int), ()), G2, ?_, rfl, a4.get g1 (fun h => absurd h (by decide)), a3.congr fun k hk => ?_, a4.get g3 (fun h => absurd h (by decide))⟩
      · unfold weave_Encode.s2
        simp only [List.length_nil, hWP, decide_eq_true (show (i : Int) < ((W * P : Nat) : Int) by omega), cond_t, q2, bind_some, decide_eq_false (show ¬ (W : Int) = 0 by omega), cond_f, htm, BAt.at hmod, g3.get hmod, htd, hidx, a1, a2, wrap_succ (show i < 9223372036854775807 by omega)]
        rfl
      · by_cases e : k = t.length + i
        · subst e
          rw [if_pos rfl, if_pos (show t.length + i < t.length + (i + 1) by omega), if_neg (show ¬ t.length + i < t.length by omega), Nat.add_sub_cancel_left]
        · rw [if_neg e]
          by_cases h2 : k < t.length + i
          · rw [if_pos h2, if_pos (show k < t.length + (i + 1) by omega)]
          · rw [if_neg h2, if_neg (show ¬ k < t.length + (i + 1) by omega)])
    (by
      rintro _ G ⟨rfl, g1, g2, g3⟩
      refine ⟨_, G, ?_, rfl, g2.congr fun k hk => by rw [if_pos (by omega)]⟩
      unfold weave_Encode.s2
      simp only [hWP, decide_eq_false (show ¬ ((W * P : Nat) : Int) < ((W * P : Nat) : Int) by omega), cond_f])
    (y := (⟨some (1, 0), t.length + 0, s.length + W * P⟩, ((0 : Nat) : Int), ())) (H := G) ⟨rfl, g1, g2.congr fun k hk => by
      by_cases h : k < t.length
      · rw [if_pos h, if_pos (by omega)]
        rw [if_pos h]
      · rw [if_neg h, if_neg (by omega)], g3⟩
  have l2' : loopW (weave_Encode.s2 s [] (⟨some (2, 0), W, W⟩, H2 ++ [Blk.cells (arrC W fun _ => [.str []]) .exact]) (W : Int) (P : Int)) (⟨some (1, 0), t.length, s.length + W * P⟩, 0, ()) G = some ((⟨some (1, 0), t.length + W * P, s.length + W * P⟩, ()), G') := l2
  simp only [l2', bind_some]
  have hso : strOf G' ⟨some (1, 0), t.length + W * P, s.length + W * P⟩ = some (rawT t W P) := by
    rw [htl]
    rw [strOf_exact e1]
    unfold rawT
    rw [htl]
  rw [hso]; rfl
end Ev
namespace Ev
open Go (IntKind)

/-- The places of a word that are known to be lost. -/
def hoF (W R n : Nat) : List Int → List Int
  | [] => []
  | v :: r => if 0 ≤ v ∧ v < (R : Int) ∧ v.toNat % W = n then ((v.toNat / W : Nat) : Int) :: hoF W R n r else hoF W R n r
theorem hoF_snoc (W R n : Nat) (x : Int) : ∀ l, hoF W R n (l ++ [x]) = hoF W R n l ++ (if 0 ≤ x ∧ x < (R : Int) ∧ x.toNat % W = n then [((x.toNat / W : Nat) : Int)] else [])
  | [] => by
    rw [List.nil_append, hoF, hoF]
    split <;> rfl
  | v :: r => by
    rw [List.cons_append, hoF, hoF_snoc W R n x r, hoF]
    split <;> rfl
theorem hoF_len (W R n : Nat) : ∀ l, (hoF W R n l).length ≤ l.length
  | [] => Nat.le_refl 0
  | v :: r => by
    have := hoF_len W R n r
    rw [hoF]
    split
    · rw [List.length_cons, List.length_cons]; omega
    · rw [List.length_cons]; omega
theorem hoF_mem {W R n : Nat} {x : Int} : ∀ {l}, x ∈ hoF W R n l ↔ ∃ v ∈ l, (0 ≤ v ∧ v < (R : Int) ∧ v.toNat % W = n) ∧ x = ((v.toNat / W : Nat) : Int)
  | [] => ⟨fun h => absurd h List.not_mem_nil, fun ⟨v, h, _⟩ => absurd h List.not_mem_nil⟩
  | v :: r => by
    rw [hoF]
    split
    · rename_i hc
      rw [List.mem_cons, hoF_mem]
      constructor
      · rintro (h | ⟨w, h1, h2⟩)
        · exact ⟨v, List.mem_cons_self .., hc, h⟩
        · exact ⟨w, List.mem_cons_of_mem _ h1, h2⟩
      · rintro ⟨w, h1, h2, h3⟩
        rcases List.mem_cons.1 h1 with rfl | h1
        · exact .inl h3
        · exact .inr ⟨w, h1, h2, h3⟩
    · rename_i hc
      rw [hoF_mem]
      constructor
      · rintro ⟨w, h1, h2⟩; exact ⟨w, List.mem_cons_of_mem _ h1, h2⟩
      · rintro ⟨w, h1, h2, h3⟩
        rcases List.mem_cons.1 h1 with rfl | h1
        · exact absurd h2 hc
        · exact ⟨w, h1, h2, h3⟩
theorem holes_eq {H : Heap} {s : Sl} {l : List Int} (hr : Row H 1 s (intC l)) (hl : l.length < 100000) {W R : Nat} (D P : Int) (hW : 1 ≤ W) (hR : R < 1000000) (n : Nat) : ∃ t G, weave_holes s ((W : Int), D, P, (R : Int), ()) (n : Int) H = some ((t, ()), G) ∧ Row G 1 t (intC (hoF W R n l)) ∧ Keep (fun _ => False) H G := by
  have hs := hr.int_len
  have h0 : (H ++ [Blk.cells [.int .i64 (W : Int), .int .i64 D, .int .i64 P, .int .i64 (R : Int)] .exact])[H.length]? = some (Blk.cells [.int .i64 (W : Int), .int .i64 D, .int .i64 P, .int .i64 (R : Int)] .exact) := app_last
  have k0 : Keep (fun _ => False) H (H ++ [Blk.cells [.int .i64 (W : Int), .int .i64 D, .int .i64 P, .int .i64 (R : Int)] .exact]) := Keep.push _ _ _
  generalize hH1 : H ++ [Blk.cells [.int .i64 (W : Int), .int .i64 D, .int .i64 P, .int .i64 (R : Int)] .exact] = H1 at h0 k0
  obtain ⟨x, G, l1, t, rfl, g⟩ := loop_rise (step := weave_holes.s1 s (n : Int) H) l.length (fun i y G => ∃ t, y = (t, (i : Int), ()) ∧ GrowN H1 G 1 t (intC (hoF W R n (l.take i)))) (fun x G => ∃ t, x = (t, ()) ∧ GrowN H1 G 1 t (intC (hoF W R n l)))
    (by
      rintro i _ G hi ⟨t, rfl, g⟩
      left
      obtain ⟨b, o, _, a1, a2⟩ := (hr.keep (k0.trans g.keep) fun _ _ _ => id).int hi
      obtain ⟨_, q2, _, q4⟩ := sh_at (g.keep.get h0 id)
      have hlt : decide ((i : Int) < (s.len : Int)) = true := decide_eq_true (by omega)
      have hw := wrap_succ (show i < 9223372036854775807 by omega)
      have hsn := hoF_snoc W R n l[i] (l.take i)
      rw [← List.take_succ_eq_append_getElem hi] at hsn
      have hW0 : decide ((W : Int) = 0) = false := decide_eq_false (by omega)
      by_cases c : 0 ≤ l[i] ∧ l[i] < (R : Int) ∧ l[i].toNat % W = n
      · rw [if_pos c] at hsn
        obtain ⟨m, hm⟩ : ∃ m : Nat, l[i] = (m : Int) := ⟨l[i].toNat, (Int.toNat_of_nonneg c.1).symm⟩
        rw [hm] at a2 c hsn
        rw [Int.toNat_natCast] at c hsn
        have htm : Int.tmod (m : Int) (W : Int) = ((m % W : Nat) : Int) := rfl
        have hml : m / W ≤ m := Nat.div_le_self m W
        have htd : IntKind.wrap .i64 (Int.tdiv (m : Int) (W : Int)) = ((m / W : Nat) : Int) := by
          rw [tdiv_nat]
          generalize m / W = z at hml
          exact wrap_i64 (by omega) (by omega)
        have hle := hoF_len W R n (l.take i)
        rw [List.length_take] at hle
        have htl := g.int_len
        obtain ⟨t', G2, b1, b2, b3, b4, _⟩ := g.one (bytes := 8) (new := [.int .i64 ((m / W : Nat) : Int)]) (by decide) rfl (by omega) (by omega)
        refine ⟨(t', ((i + 1 : Nat) : Int), ()), G2, ?_, t', rfl, by rw [hsn, intC_snoc]; exact b3⟩
        unfold weave_holes.s1
        simp only [hlt, cond_t, a1, bind_some, a2, decide_eq_true c.1, q4, decide_eq_true c.2.1, q2, hW0, cond_f, htm, decide_eq_true (show ((m % W : Nat) : Int) = (n : Int) by rw [c.2.2]), htd, b1, b2, hw]
      · rw [if_neg c, List.append_nil] at hsn
        refine ⟨(t, ((i + 1 : Nat) : Int), ()), G, ?_, t, rfl, by rw [hsn]; exact g⟩
        unfold weave_holes.s1
        by_cases c1 : 0 ≤ l[i]
        · by_cases c2 : l[i] < (R : Int)
          · obtain ⟨m, hm⟩ : ∃ m : Nat, l[i] = (m : Int) := ⟨l[i].toNat, (Int.toNat_of_nonneg c1).symm⟩
            rw [hm] at a2 c c1 c2
            rw [Int.toNat_natCast] at c
            have htm : Int.tmod (m : Int) (W : Int) = ((m % W : Nat) : Int) := rfl
            have hne : ¬ ((m % W : Nat) : Int) = (n : Int) := fun h => c ⟨c1, c2, Int.ofNat.inj h⟩
            simp only [hlt, cond_t, a1, bind_some, a2, decide_eq_true c1, q4, decide_eq_true c2, q2, hW0, cond_f, htm, decide_eq_false hne, hw]
          · simp only [hlt, cond_t, a1, bind_some, a2, decide_eq_true c1, q4, decide_eq_false c2, cond_f, hw]
        · simp only [hlt, cond_t, a1, bind_some, a2, decide_eq_false c1, cond_f, hw])
    (by
      rintro _ G ⟨t, rfl, g⟩
      rw [List.take_length] at g
      refine ⟨(t, ()), G, ?_, t, rfl, g⟩
      unfold weave_holes.s1
      simp only [decide_eq_false (show ¬ ((l.length : Nat) : Int) < (s.len : Int) by omega), cond_f])
    (y := (⟨none, 0, 0⟩, ((0 : Nat) : Int), ())) (H := H1) ⟨_, rfl, GrowN.ni (Keep.refl _ _) 1⟩
  have l1' : loopW (weave_holes.s1 s (n : Int) H) (⟨none, 0, 0⟩, 0, ()) H1 = some ((t, ()), G) := l1
  refine ⟨t, G, ?_, g.row, k0.trans g.keep⟩
  unfold weave_holes
  simp only [hH1, l1', bind_some]
theorem size_eq {s P W D : Nat} (h : ShOK s P W D) {n : Nat} (hn : n < W) : weave_size ((W : Int), (D : Int), (P : Int), ((s + W * P : Nat) : Int), ()) (n : Int) = some (((wl s W n : Nat) : Int), ()) := by
  obtain ⟨w1, w2, _, _⟩ := h.wd
  have hsW := h.sW
  have hs1 := h.s1
  have hsub := h.sub
  unfold weave_size weave_size.on
  have r1 : rdI .i64 ([] ++ [Blk.cells [.int .i64 (W : Int), .int .i64 (D : Int), .int .i64 (P : Int), .int .i64 ((s + W * P : Nat) : Int)] .exact]) ([] : Heap).length 3 = some ((s + W * P : Nat) : Int) := rfl
  have r2 : rdI .i64 ([] ++ [Blk.cells [.int .i64 (W : Int), .int .i64 (D : Int), .int .i64 (P : Int), .int .i64 ((s + W * P : Nat) : Int)] .exact]) ([] : Heap).length 0 = some (W : Int) := rfl
  have r3 : rdI .i64 ([] ++ [Blk.cells [.int .i64 (W : Int), .int .i64 (D : Int), .int .i64 (P : Int), .int .i64 ((s + W * P : Nat) : Int)] .exact]) ([] : Heap).length 2 = some (P : Int) := rfl
  have e : IntKind.wrap .i64 (Int.tdiv (IntKind.wrap .i64 ((IntKind.wrap .i64 ((IntKind.wrap .i64 ((s : Int) - (n : Int))) + (W : Int))) - 1)) (W : Int)) = ((wl s W n : Nat) : Int) := by
    rw [wrap_i64 (n := (s : Int) - (n : Int)) (by omega) (by omega), wrap_i64 (n := (s : Int) - (n : Int) + (W : Int)) (by omega) (by omega), wrap_i64 (n := (s : Int) - (n : Int) + (W : Int) - 1) (by omega) (by omega), show (s : Int) - (n : Int) + (W : Int) - 1 = ((s - n + W - 1 : Nat) : Int) by omega, tdiv_nat]
    have hle : wl s W n ≤ s - n + W - 1 := Nat.div_le_self _ _
    show IntKind.wrap .i64 ((wl s W n : Nat) : Int) = _
    generalize wl s W n = z at hle
    exact wrap_i64 (by omega) (by omega)
  simp only [r1, bind_some, r2, r3, hsub, decide_eq_false (show ¬ (W : Int) = 0 by omega), cond_f, e]

/-- What a word may come to. -/
theorem decF_cases (s : Bytes) (n : Nat) (l : List Int) : decF s n l = ([], 0, 1) ∨ decF s n l = ([], 0, 280) ∨ ∃ o, decF s n l = (o, (dfc s o : Int), 0) ∧ o.length = s.length := by
  unfold decF
  cases hck : ckB s.length n with
  | false => left; rw [if_pos rfl]
  | true =>
    have hck' : 1 ≤ (n : Int) ∧ (n : Int) ≤ 32 ∧ (n : Int) < (s.length : Int) ∧ (s.length : Int) ≤ 255 := of_decide_eq_true hck
    right
    rw [if_neg (by decide)]
    by_cases hb : badL l s.length ∨ n < (lostK l s.length).length
    · left; rw [if_pos hb]
    · rw [if_neg hb]
      have hb1 : ¬ badL l s.length := fun h => hb (.inl h)
      cases hr : rtB s n with
      | true =>
        right
        refine ⟨s, ?_, rfl⟩
        rw [if_pos rfl]
        have : dfc s s = 0 := by
          unfold dfc
          rw [List.filter_eq_nil_iff.2 fun k _ => by simp]; rfl
        rw [this]; rfl
      | false =>
        rw [if_neg (by decide)]
        rcases decC_near (s := s) (n := n) (by omega) (lostK_nodup hb1) (lostK_in hb1) with h | ⟨o, h1, h2, _, _⟩
        · exact .inl h
        · exact .inr ⟨o, h1, h2⟩
theorem dfc_le (s o : Bytes) : dfc s o ≤ s.length := Nat.le_trans (List.length_filter_le _ _) (by rw [List.length_range]; exact Nat.le_refl _)
/-- The words of a page. -/
noncomputable def dwF (raw : Bytes) (W P : Nat) (l : List Int) (n : Nat) : Bytes × Int × Int := decF (pt raw W n) P (hoF W raw.length n l)
noncomputable def sumW (raw : Bytes) (W P : Nat) (l : List Int) : Nat → Int
  | 0 => 0
  | n + 1 => sumW raw W P l n + (dwF raw W P l n).2.1
noncomputable def outW (raw : Bytes) (W P : Nat) (l : List Int) (size : Nat) : Bytes := pl size fun j => co (dwF raw W P l (j % W)).1 (j / W)
theorem sumW_le {raw : Bytes} {W P : Nat} {l : List Int} (hW : 1 ≤ W) : ∀ n, (∀ m, m < n → (dwF raw W P l m).2.2 = 0) → 0 ≤ sumW raw W P l n ∧ sumW raw W P l n ≤ ((raw.length + W) * n : Nat)
  | 0, _ => ⟨Int.le_refl _, by rw [Nat.mul_zero]; exact Int.le_refl _⟩
  | n + 1, h => by
    obtain ⟨h1, h2⟩ := sumW_le (raw := raw) (P := P) (l := l) hW n fun m hm => h m (by omega)
    have h3 := h n (by omega)
    rw [sumW]
    rcases decF_cases (pt raw W n) P (hoF W raw.length n l) with e | e | ⟨o, e, _⟩
    · unfold dwF at h3; rw [e] at h3; exact absurd h3 (by decide)
    · unfold dwF at h3; rw [e] at h3; exact absurd h3 (by decide)
    · have h4 := dfc_le (pt raw W n) o
      rw [pt_len _ hW] at h4
      have h5 : wl raw.length W n ≤ raw.length + W := Nat.le_trans (Nat.div_le_self _ _) (by omega)
      unfold dwF
      rw [e, Nat.mul_succ]
      show 0 ≤ _ + (dfc (pt raw W n) o : Int) ∧ _ + (dfc (pt raw W n) o : Int) ≤ _
      omega
set_option maxHeartbeats 1000000 in
theorem word_loop {G : Heap} {b c s W n : Nat} {D P : Int} {R : Int} {w : Bytes} {f : Nat → UInt8} {H0 H1 H2 H3 : Heap} {k e many : Int} (hW : 1 ≤ W) (hn : n < W) (hs : s < 100000) (hW2 : W < 100000) (hb : H0.length = b) (hsh : G[b]? = some (Blk.cells [.int .i64 (W : Int), .int .i64 D, .int .i64 P, .int .i64 R] .exact)) (hbc : b ≠ c) (ba : BAt G c s f) (hw : w.length ≥ wl s W n) :
    ∃ G2, loopW (weave_Decode.s1 H0 (⟨some (c, 0), s, s⟩, H1) (many, (n : Int), ()) ((w, k, e, ()), H2) (((wl s W n : Nat) : Int), ())) (0, ()) G = some ((), G2) ∧ BAt G2 c s (fun j => if j % W = n then co w (j / W) else f j) ∧ Keep (fun j => j = c) G G2 := by
  obtain ⟨x, G2, l1, g1, g2⟩ := loop_rise (step := weave_Decode.s1 H0 (⟨some (c, 0), s, s⟩, H1) (many, (n : Int), ()) ((w, k, e, ()), H2) (((wl s W n : Nat) : Int), ())) (wl s W n) (fun i y G' => y = ((i : Int), ()) ∧ BAt G' c s (fun j => if j % W = n ∧ j / W < i then co w (j / W) else f j) ∧ Keep (fun j => j = c) G G') (fun _ G' => BAt G' c s (fun j => if j % W = n then co w (j / W) else f j) ∧ Keep (fun j => j = c) G G')
    (by
      rintro i _ G' hi ⟨rfl, g1, g2⟩
      left
      obtain ⟨_, q2, _, _⟩ := sh_at (g2.get hsh (fun h => hbc h))
      have hlt := (wl_lt hW).1 hi
      have hlt' : i * W + n < s := by omega
      have hle : i ≤ i * W := Nat.le_mul_of_pos_right i (by omega)
      have hix : IntKind.wrap .i64 ((IntKind.wrap .i64 ((i : Int) * (W : Int))) + (n : Int)) = ((i * W + n : Nat) : Int) := by
        rw [← Int.natCast_mul, wrap_i64 (n := ((i * W : Nat) : Int)) (by omega) (by omega), wrap_i64 (by omega) (by omega)]; omega
      obtain ⟨G3, a1, a2, a3⟩ := g1.set hlt' (co w i)
      have hidx : idxS w (i : Int) = some (un (co w i)) := by rw [idx_of (by omega), co_lt (by omega)]
      refine ⟨(((i + 1 : Nat) : Int), ()), G3, ?_, rfl, a2.congr fun j hj => ?_, g2.trans a3⟩
      · unfold weave_Decode.s1
        simp only [hb, decide_eq_true (show (i : Int) < ((wl s W n : Nat) : Int) by omega), cond_t, q2, bind_some, hidx, hix, BAt.at hlt', a1, wrap_succ (show i < 9223372036854775807 by omega)]
      · by_cases e : j = i * W + n
        · have h1 : j % W = n := by rw [e, Nat.add_comm, Nat.add_mul_mod_self_right, Nat.mod_eq_of_lt hn]
          have h2 : j / W = i := by rw [e, Nat.add_comm, Nat.add_mul_div_right _ _ (by omega), Nat.div_eq_of_lt hn, Nat.zero_add]
          rw [if_pos e, if_pos ⟨h1, by omega⟩, h2]
        · rw [if_neg e]
          by_cases h1 : j % W = n ∧ j / W < i
          · rw [if_pos h1, if_pos ⟨h1.1, by omega⟩]
          · rw [if_neg h1, if_neg fun h2 => ?_]
            have h3 : j / W = i := by
              have : ¬ j / W < i := fun h4 => h1 ⟨h2.1, h4⟩
              omega
            have h5 := Nat.div_add_mod j W
            rw [h2.1, h3, Nat.mul_comm] at h5
            exact e h5.symm)
    (by
      rintro _ G' ⟨rfl, g1, g2⟩
      refine ⟨(), G', ?_, g1.congr fun j hj => ?_, g2⟩
      · unfold weave_Decode.s1
        simp only [decide_eq_false (show ¬ ((wl s W n : Nat) : Int) < ((wl s W n : Nat) : Int) by omega), cond_f]
      · by_cases h1 : j % W = n
        · have h5 := Nat.div_add_mod j W
          rw [h1, Nat.mul_comm] at h5
          rw [if_pos h1, if_pos ⟨h1, (wl_lt hW).2 (by omega)⟩]
        · rw [if_neg h1, if_neg fun h => h1 h.1])
    (y := (((0 : Nat) : Int), ())) (H := G) ⟨rfl, ba.congr fun j _ => by rw [if_neg fun h => absurd h.2 (Nat.not_lt_zero _)], Keep.refl _ _⟩
  exact ⟨G2, l1, g1, g2⟩
end Ev
namespace Ev
open Go (IntKind)

theorem shT_eq (W D P R : Nat) : shT W D P R = ((W : Int), (D : Int), (P : Int), (R : Int), ()) := rfl
theorem dwF_len {raw : Bytes} {W P : Nat} {l : List Int} (hW : 1 ≤ W) {n : Nat} (h : (dwF raw W P l n).2.2 = 0) : (dwF raw W P l n).1.length = wl raw.length W n ∧ 0 ≤ (dwF raw W P l n).2.1 ∧ (dwF raw W P l n).2.1 ≤ (wl raw.length W n : Int) := by
  unfold dwF at h ⊢
  rcases decF_cases (pt raw W n) P (hoF W raw.length n l) with e | e | ⟨o, e, eo⟩
  · rw [e] at h; exact absurd h (by decide)
  · rw [e] at h; exact absurd h (by decide)
  · rw [e]
    have h4 := dfc_le (pt raw W n) o
    rw [pt_len _ hW] at h4 eo
    exact ⟨eo, by show 0 ≤ (dfc (pt raw W n) o : Int); omega, by show (dfc (pt raw W n) o : Int) ≤ _; omega⟩
theorem wl_mono {L L2 W n : Nat} (h : L ≤ L2) : wl L W n ≤ wl L2 W n := Nat.div_le_div_right (by omega)
set_option maxHeartbeats 2000000 in
theorem wdecode_eq {H : Heap} {x3 : Sl} {l : List Int} (hr : Row H 1 x3 (intC l)) (hl : l.length < 100000) {raw : Bytes} {size P W D : Nat} (h : ShOK size P W D) (seed : Int) (hraw : raw.length = size + W * P) :
    ∃ G, Keep (fun _ => False) H G ∧ (((∀ n, n < W → (dwF raw W P l n).2.2 = 0) ∧ weave_Decode raw (shT W D P (size + W * P)) seed x3 H = some ((mixF (outW raw W P l size) (maskF seed size), sumW raw W P l W, 0, ()), G)) ∨ ∃ n, n < W ∧ (dwF raw W P l n).2.2 ≠ 0 ∧ (∀ m, m < n → (dwF raw W P l m).2.2 = 0) ∧ weave_Decode raw (shT W D P (size + W * P)) seed x3 H = some (([], 0, (dwF raw W P l n).2.2, ()), G)) := by
  obtain ⟨w1, w2, w3, w4⟩ := h.wd
  have hrr := h.r
  have hs0 := h.s0
  have hs1 := h.s1
  have hp0 := h.p0
  have hp1 := h.p1
  have hsub := h.sub
  have hfit := fits_ok h
  rw [shT_eq] at hfit ⊢
  have h1 : (H ++ [Blk.cells [.int .i64 (W : Int), .int .i64 (D : Int), .int .i64 (P : Int), .int .i64 ((size + W * P : Nat) : Int)] .exact])[H.length]? = some (Blk.cells [.int .i64 (W : Int), .int .i64 (D : Int), .int .i64 (P : Int), .int .i64 ((size + W * P : Nat) : Int)] .exact) := app_last
  have k1 : Keep (fun _ => False) H (H ++ [Blk.cells [.int .i64 (W : Int), .int .i64 (D : Int), .int .i64 (P : Int), .int .i64 ((size + W * P : Nat) : Int)] .exact]) := Keep.push _ _ _
  have hl1 : (H ++ [Blk.cells [.int .i64 (W : Int), .int .i64 (D : Int), .int .i64 (P : Int), .int .i64 ((size + W * P : Nat) : Int)] .exact]).length = H.length + 1 := by simp
  generalize hH1 : H ++ [Blk.cells [.int .i64 (W : Int), .int .i64 (D : Int), .int .i64 (P : Int), .int .i64 ((size + W * P : Nat) : Int)] .exact] = H1 at h1 k1 hl1
  obtain ⟨r1, r2, r3, r4⟩ := sh_at h1
  have hmk := mk_bytes (H := H1) (n := size) (by omega)
  rw [hl1] at hmk
  have k2 : Keep (fun _ => False) H1 (H1 ++ [Blk.cells (arrC size fun _ => [.int .u8 (un 0)]) .exact]) := Keep.push _ _ _
  have hb2 : BAt (H1 ++ [Blk.cells (arrC size fun _ => [.int .u8 (un 0)]) .exact]) (H.length + 1) size (fun _ => 0) := by
    unfold BAt
    rw [← hl1]; exact app_last
  obtain ⟨_, q2, _, _⟩ := sh_at (k2.get h1 id)
  have hne : H.length ≠ H.length + 1 := by omega
  have kF : ∀ {A B : Heap}, Keep (fun _ => False) A B → Keep (fun j => j = H.length + 1) A B := fun k => k.mono fun _ h => h.elim
  obtain ⟨x, G, l1, hx⟩ := loop_rise (step := weave_Decode.s2 raw x3 H (⟨some (H.length + 1, 0), size, size⟩, H1 ++ [Blk.cells (arrC size fun _ => [.int .u8 (un 0)]) .exact]) (W : Int)) W
    (fun n y G => y = (sumW raw W P l n, (n : Int), ()) ∧ (∀ m, m < n → (dwF raw W P l m).2.2 = 0) ∧ BAt G (H.length + 1) size (fun j => if j % W < n then co (dwF raw W P l (j % W)).1 (j / W) else 0) ∧ Keep (fun j => j = H.length + 1) H1 G)
    (fun x G => Keep (fun j => j = H.length + 1) H1 G ∧ ((x = .inl (sumW raw W P l W, ()) ∧ (∀ m, m < W → (dwF raw W P l m).2.2 = 0) ∧ BAt G (H.length + 1) size (fun j => co (dwF raw W P l (j % W)).1 (j / W))) ∨ ∃ n, n < W ∧ (dwF raw W P l n).2.2 ≠ 0 ∧ (∀ m, m < n → (dwF raw W P l m).2.2 = 0) ∧ x = .inr ([], 0, (dwF raw W P l n).2.2, ())))
    (by
      rintro n _ G hn ⟨rfl, hok, ba, kG⟩
      have hshG := kG.get h1 (fun h => hne h)
      obtain ⟨p1, p2, p3, p4⟩ := sh_at hshG
      have hrG : Row G 1 x3 (intC l) := hr.keep ((kF k1).trans kG) fun b o hp h => by
        have := hr.lt hp
        have h : b = H.length + 1 := h
        omega
      obtain ⟨t, G1, e1, e2, e3⟩ := holes_eq hrG hl (W := W) (R := size + W * P) (D : Int) (P : Int) w1 (by omega) n
      have hoL := hoF_len W (size + W * P) n l
      have hptl : (pt raw W n).length = wl raw.length W n := pt_len _ w1 n
      have hwle : wl raw.length W n ≤ raw.length + W := Nat.le_trans (Nat.div_le_self _ _) (by omega)
      obtain ⟨G2, d1, d2⟩ := decode_eq e2 (by omega) (pt raw W n) P (by omega) (by omega)
      have hdw : decF (pt raw W n) P (hoF W (size + W * P) n l) = dwF raw W P l n := by unfold dwF; rw [hraw]
      rw [hdw] at d1
      obtain ⟨_, _, p7, _⟩ := sh_at (e3.get hshG id)
      have hshG2 := (e3.trans d2).get hshG id
      obtain ⟨p8, _, _, _⟩ := sh_at hshG2
      have hpart := part_eq (s := raw) (D : Int) (P : Int) ((size + W * P : Nat) : Int) (show raw.length ≤ 1099511627776 by omega) w1 (by omega) (show n ≤ 1099511627776 by omega)
      by_cases hc : (dwF raw W P l n).2.2 = 0
      · left
        obtain ⟨c1, c2, c3⟩ := dwF_len w1 hc
        obtain ⟨G3, f1, f2, f3⟩ := word_loop (w := (dwF raw W P l n).1) (k := (dwF raw W P l n).2.1) (e := 0) (many := sumW raw W P l n) (H0 := H) (H1 := H1 ++ [Blk.cells (arrC size fun _ => [.int .u8 (un 0)]) .exact]) (H2 := G2) (H3 := G2) w1 hn (show size < 100000 by omega) (by omega) rfl hshG2 hne (ba.keep (e3.trans d2) id) (by rw [c1, hraw]; exact wl_mono (by omega))
        obtain ⟨s1, s2⟩ := sumW_le (raw := raw) (P := P) (l := l) w1 n hok
        have hmul : (raw.length + W) * n ≤ 2000 * 11 := Nat.mul_le_mul (by omega) (by omega)
        have hw2 : IntKind.wrap .i64 (sumW raw W P l n + (dwF raw W P l n).2.1) = sumW raw W P l (n + 1) := by
          rw [sumW]
          exact wrap_i64 (by omega) (by omega)
        refine ⟨(sumW raw W P l (n + 1), ((n + 1 : Nat) : Int), ()), G3, ?_, rfl, fun m hm => ?_, f2.congr fun j hj => ?_, (kG.trans ((kF e3).trans (kF d2))).trans f3⟩
        · unfold weave_Decode.s2
          simp only [decide_eq_true (show (n : Int) < (W : Int) by omega), cond_t, p1, bind_some, hpart, p3, e1, p7, if_true, d1, hc, decide_true, Bool.not_true, cond_f, p8, size_eq h hn]
          rw [hc] at d1
          simp only [f1, bind_some, hw2, wrap_succ (show n < 9223372036854775807 by omega)]
        · by_cases e : m = n
          · rw [e]; exact hc
          · exact hok m (by omega)
        · by_cases e : j % W = n
          · rw [if_pos e, if_pos (show j % W < n + 1 by omega), e]
          · rw [if_neg e]
            by_cases e2 : j % W < n
            · rw [if_pos e2, if_pos (show j % W < n + 1 by omega)]
            · rw [if_neg e2, if_neg (show ¬ j % W < n + 1 by omega)]
      · right
        refine ⟨.inr ([], 0, (dwF raw W P l n).2.2, ()), G2, ?_, (kG.trans ((kF e3).trans (kF d2))), .inr ⟨n, hn, hc, hok, rfl⟩⟩
        unfold weave_Decode.s2
        simp only [decide_eq_true (show (n : Int) < (W : Int) by omega), cond_t, p1, bind_some, hpart, p3, e1, p7, if_true, d1, decide_eq_false hc, Bool.not_false])
    (by
      rintro _ G ⟨rfl, hok, ba, kG⟩
      refine ⟨.inl (sumW raw W P l W, ()), G, ?_, kG, .inl ⟨rfl, hok, ba.congr fun j _ => by rw [if_pos (Nat.mod_lt _ (by omega))]⟩⟩
      unfold weave_Decode.s2
      simp only [decide_eq_false (show ¬ ((W : Nat) : Int) < (W : Int) by omega), cond_f])
    (y := (sumW raw W P l 0, ((0 : Nat) : Int), ())) (H := H1 ++ [Blk.cells (arrC size fun _ => [.int .u8 (un 0)]) .exact]) ⟨rfl, fun m hm => absurd hm (Nat.not_lt_zero _), hb2.congr fun j _ => by rw [if_neg (Nat.not_lt_zero _)], kF k2⟩
  obtain ⟨kG, hx⟩ := hx
  have l1' : loopW (weave_Decode.s2 raw x3 H (⟨some (H.length + 1, 0), size, size⟩, H1 ++ [Blk.cells (arrC size fun _ => [.int .u8 (un 0)]) .exact]) (W : Int)) (0, 0, ()) (H1 ++ [Blk.cells (arrC size fun _ => [.int .u8 (un 0)]) .exact]) = some (x, G) := l1
  have kHG : Keep (fun _ => False) H G := ((kF k1).trans kG).new fun j hj hlt => by
    have : j = H.length + 1 := hj
    omega
  refine ⟨G, kHG, ?_⟩
  unfold weave_Decode
  rcases hx with ⟨rfl, hok, ba⟩ | ⟨n, hn, hc, hok, rfl⟩
  · left
    refine ⟨hok, ?_⟩
    have hso := strOf_exact ba
    have hms := mask_eq seed (size : Int) (by omega)
    rw [Int.toNat_natCast] at hms
    have hmx : weave_Mix (outW raw W P l size) (maskF seed size) = some (mixF (outW raw W P l size) (maskF seed size), ()) := mix_eq _ _ (by unfold outW; rw [pl_len]; omega) (by rw [maskF_len]; omega)
    simp only [hH1, r1, bind_some, hfit, Bool.not_true, cond_f, r4, decide_eq_true (show (raw.length : Int) = ((size + W * P : Nat) : Int) by omega), r2, r3, hsub, hmk, q2, l1', sumL, hso, hms]
    rw [show (pl size fun j => co (dwF raw W P l (j % W)).1 (j / W)) = outW raw W P l size from rfl, hmx]
    rfl
  · right
    refine ⟨n, hn, hc, hok, ?_⟩
    simp only [hH1, r1, bind_some, hfit, Bool.not_true, cond_f, r4, decide_eq_true (show (raw.length : Int) = ((size + W * P : Nat) : Int) by omega), r2, r3, hsub, hmk, q2, l1', sumR]
/-- Of too many bytes, or too few, nothing comes. -/
theorem wdecode_no {H : Heap} {x3 : Sl} {raw : Bytes} {size P W D : Nat} (h : ShOK size P W D) (seed : Int) (hraw : raw.length ≠ size + W * P) : ∃ G, weave_Decode raw (shT W D P (size + W * P)) seed x3 H = some (([], 0, 1, ()), G) ∧ Keep (fun _ => False) H G := by
  have hfit := fits_ok h
  rw [shT_eq] at hfit ⊢
  have h1 : (H ++ [Blk.cells [.int .i64 (W : Int), .int .i64 (D : Int), .int .i64 (P : Int), .int .i64 ((size + W * P : Nat) : Int)] .exact])[H.length]? = some (Blk.cells [.int .i64 (W : Int), .int .i64 (D : Int), .int .i64 (P : Int), .int .i64 ((size + W * P : Nat) : Int)] .exact) := app_last
  obtain ⟨r1, r2, r3, r4⟩ := sh_at h1
  refine ⟨H ++ [Blk.cells [.int .i64 (W : Int), .int .i64 (D : Int), .int .i64 (P : Int), .int .i64 ((size + W * P : Nat) : Int)] .exact], ?_, Keep.push _ _ _⟩
  unfold weave_Decode
  simp only [r1, bind_some, hfit, Bool.not_true, cond_f, r4, decide_eq_false (show ¬ (raw.length : Int) = ((size + W * P : Nat) : Int) by omega), Bool.not_false, cond_t]
theorem wencode_no {s : Bytes} {size P W D : Nat} (h : ShOK size P W D) (seed : Int) (hs : s.length ≠ size) : weave_Encode s (shT W D P (size + W * P)) seed = some ([], 1, ()) := by
  have hfit := fits_ok h
  have hsub := h.sub
  rw [shT_eq] at hfit ⊢
  unfold weave_Encode weave_Encode.on
  have h1 : ([] ++ [Blk.cells [.int .i64 (W : Int), .int .i64 (D : Int), .int .i64 (P : Int), .int .i64 ((size + W * P : Nat) : Int)] .exact] : Heap)[([] : Heap).length]? = some (Blk.cells [.int .i64 (W : Int), .int .i64 (D : Int), .int .i64 (P : Int), .int .i64 ((size + W * P : Nat) : Int)] .exact) := rfl
  obtain ⟨r1, r2, r3, r4⟩ := sh_at h1
  simp only [r1, bind_some, hfit, Bool.not_true, cond_f, r2, r3, r4, hsub, decide_eq_false (show ¬ (s.length : Int) = (size : Int) by omega), Bool.not_false, cond_t]

/-! Made right. -/
/-- When each word is made right the page comes back. -/
theorem back_ok {s : Bytes} {raw : Bytes} {P W D : Nat} (h : ShOK s.length P W D) {seed : Int} {l : List Int} (hd : ∀ n, n < W → (dwF raw W P l n).1 = encF (pt (tF s seed) W n) P) : mixF (outW raw W P l s.length) (maskF seed s.length) = s := by
  obtain ⟨w1, w2, w3, w4⟩ := h.wd
  have ho : outW raw W P l s.length = tF s seed := by
    unfold outW
    rw [← pl_co (tF s seed), tF_len]
    refine pl_congr fun j hj => ?_
    have hm : j % W < W := Nat.mod_lt _ (by omega)
    rw [hd _ hm]
    unfold encF
    have hlt : j / W < (pt (tF s seed) W (j % W)).length := by
      rw [pt_len _ w1, tF_len]
      refine (wl_lt w1).2 ?_
      rw [Nat.mul_comm, Nat.mod_add_div]; exact hj
    rw [co_app, if_pos hlt, pt_co _ w1, Nat.mul_comm, Nat.mod_add_div]
  rw [ho]
  unfold tF
  exact mixF_twice (maskF_len _ _).symm
end Ev
namespace Ev
open Go (IntKind)

theorem cN_window {p : Nat → Bool} {lo m : Nat} : ∀ {L : Nat}, (∀ j, j < L → p j = true → lo ≤ j ∧ j < lo + m) → cN L p ≤ m ∧ cN L p ≤ L - lo
  | 0, _ => ⟨Nat.zero_le _, Nat.zero_le _⟩
  | L + 1, h => by
    obtain ⟨h1, h2⟩ := cN_window (L := L) fun j hj => h j (by omega)
    rw [cN_succ]
    have h3 := h L (by omega)
    by_cases hp : p L = true
    · rw [if_pos hp]
      have := h3 hp
      omega
    · rw [if_neg hp]; omega
def sumN (f : Nat → Nat) : Nat → Nat
  | 0 => 0
  | n + 1 => sumN f n + f n
theorem sumN_congr {f g : Nat → Nat} : ∀ {n : Nat}, (∀ i, i < n → f i = g i) → sumN f n = sumN g n
  | 0, _ => rfl
  | n + 1, h => by rw [sumN, sumN, sumN_congr fun i hi => h i (by omega), h n (by omega)]
theorem sumN_one {f g : Nat → Nat} {a d : Nat} : ∀ {n : Nat}, a < n → (∀ i, i < n → i ≠ a → f i = g i) → f a = g a + d → sumN f n = sumN g n + d
  | 0, h, _, _ => absurd h (Nat.not_lt_zero _)
  | n + 1, h, hi, ha => by
    rw [sumN, sumN]
    by_cases e : a = n
    · subst e
      rw [ha, sumN_congr fun i hh => hi i (by omega) (by omega)]; omega
    · rw [sumN_one (n := n) (by omega) (fun i hh hne => hi i (by omega) hne) ha, hi n (by omega) (by omega)]; omega
theorem wl_last {L W n : Nat} (hW : 1 ≤ W) (hn : n < W) : wl (L + 1) W n = wl L W n + (if L % W = n then 1 else 0) := by
  have h1 : ∀ k, k < wl (L + 1) W n ↔ n + k * W < L + 1 := fun k => wl_lt hW
  have h2 : ∀ k, k < wl L W n ↔ n + k * W < L := fun k => wl_lt hW
  by_cases h : L % W = n
  · rw [if_pos h]
    have h3 : n + (L / W) * W = L := by rw [← h, Nat.mul_comm]; exact Nat.mod_add_div L W
    have e1 := (h1 (L / W)).2 (by omega)
    have e2 : ¬ L / W < wl L W n := fun h => by have := (h2 _).1 h; omega
    have e3 : ¬ L / W + 1 < wl (L + 1) W n := fun h => by
      have := (h1 _).1 h
      rw [Nat.succ_mul] at this
      omega
    by_cases h0 : L / W = 0
    · rw [h0] at e1 e2 e3; omega
    · have e4 := (h2 (L / W - 1)).2 (by
        have h5 : (L / W - 1) * W + W = L / W * W := by rw [← Nat.succ_mul]; congr 1; omega
        omega)
      omega
  · rw [if_neg h, Nat.add_zero]
    have key : ∀ k, n + k * W < L + 1 ↔ n + k * W < L := fun k => by
      constructor
      · intro h4
        by_cases h5 : n + k * W = L
        · exact absurd (by rw [← h5, Nat.add_mul_mod_self_right, Nat.mod_eq_of_lt hn]) h
        · omega
      · intro h4; omega
    have a1 : ∀ k, k < wl (L + 1) W n ↔ k < wl L W n := fun k => by rw [h1, h2, key]
    have b1 : ¬ wl L W n < wl (L + 1) W n := fun h => Nat.lt_irrefl _ ((a1 _).1 h)
    have b2 : ¬ wl (L + 1) W n < wl L W n := fun h => Nat.lt_irrefl _ ((a1 _).2 h)
    omega
/-- Places, class by class. -/
theorem sum_classes {W : Nat} (hW : 1 ≤ W) (q : Nat → Bool) : ∀ L, sumN (fun n => cN (wl L W n) fun k => q (n + k * W)) W = cN L q
  | 0 => by
    have : sumN (fun n => cN (wl 0 W n) fun k => q (n + k * W)) W = sumN (fun _ => 0) W := sumN_congr fun n _ => by
      have : wl 0 W n = 0 := by
        unfold wl
        rw [Nat.zero_sub, Nat.zero_add, Nat.div_eq_of_lt (by omega)]
      rw [this]; rfl
    rw [this]
    show _ = 0
    clear this
    induction W with
    | zero => rfl
    | succ W ih =>
      by_cases h : 1 ≤ W
      · rw [sumN, ih h]
      · have : W = 0 := by omega
        subst this; rfl
  | L + 1 => by
    rw [cN_succ, ← sum_classes hW q L]
    have hm : L % W < W := Nat.mod_lt _ (by omega)
    refine sumN_one hm (fun i hi hne => ?_) ?_
    · rw [wl_last hW hi, if_neg (fun h => hne h.symm), Nat.add_zero]
    · rw [wl_last hW hm, if_pos rfl, cN_succ]
      congr 1
      have hq : L % W + wl L W (L % W) * W = L := by
        have h1 : ¬ L % W + wl L W (L % W) * W < L := fun h => Nat.lt_irrefl _ ((wl_lt hW).2 h)
        have h2 : wl (L + 1) W (L % W) = wl L W (L % W) + 1 := by rw [wl_last hW hm, if_pos rfl]
        have h3 := (wl_lt (L := L + 1) (n := L % W) (k := wl L W (L % W)) hW).1 (by omega)
        omega
      rw [hq]
theorem dfc_cN (s c : Bytes) : dfc s c = cN s.length fun k => co s k != co c k := rfl
theorem hoF_good {W R n : Nat} {l : List Int} (hW : 1 ≤ W) (hn : n < W) : ¬ badL (hoF W R n l) (wl R W n) := fun ⟨v, h1, h2⟩ => by
  obtain ⟨x, _, ⟨h3, h4, h5⟩, rfl⟩ := hoF_mem.1 h1
  have h6 : x.toNat / W < wl R W n := (wl_lt hW).2 (by rw [← h5, Nat.mul_comm, Nat.mod_add_div]; omega)
  generalize x.toNat / W = z at h6 h2
  omega
/-- One word: made right. -/
theorem dw_ok {raw raw2 : Bytes} {W P n : Nat} {l : List Int} (hW : 1 ≤ W) (hn : n < W) (hl : raw2.length = raw.length) (hP : 1 ≤ P ∧ P ≤ 32) (hw : P < wl raw.length W n ∧ wl raw.length W n ≤ 255) (hr : rtB (pt raw W n) P = true) (p : Nat → Bool) (hp : ∀ k, k < raw.length → (p k = true ↔ (k : Int) ∈ l))
    (hd : 2 * (cN (wl raw.length W n) fun k => co raw2 (n + k * W) != co raw (n + k * W) && !(p (n + k * W))) + (cN (wl raw.length W n) fun k => p (n + k * W)) ≤ P) : dwF raw2 W P l n = (pt raw W n, ((cN (wl raw.length W n) fun k => co raw2 (n + k * W) != co raw (n + k * W) : Nat) : Int), 0) := by
  have h1 : (pt raw2 W n).length = wl raw.length W n := by rw [pt_len _ hW, hl]
  have h2 : (pt raw W n).length = wl raw.length W n := pt_len _ hW n
  have hoe : ∀ k, k < wl raw.length W n → (p (n + k * W) = true ↔ (k : Int) ∈ hoF W raw2.length n l) := fun k hk => by
    have hk2 := (wl_lt hW).1 hk
    rw [hp _ hk2, hoF_mem]
    constructor
    · intro h
      refine ⟨_, h, ⟨by omega, by omega, ?_⟩, ?_⟩
      · rw [Int.toNat_natCast, Nat.add_mul_mod_self_right, Nat.mod_eq_of_lt hn]
      · rw [Int.toNat_natCast, Nat.add_mul_div_right _ _ (by omega), Nat.div_eq_of_lt hn, Nat.zero_add]
    · rintro ⟨v, h3, ⟨h4, h5, h6⟩, h7⟩
      have h8 : k = v.toNat / W := Int.ofNat.inj h7
      have : ((n + k * W : Nat) : Int) = v := by
        have h9 := Nat.mod_add_div v.toNat W
        rw [h6, Nat.mul_comm, ← h8] at h9
        omega
      rw [this]; exact h3
  unfold dwF
  have hck : ckB (pt raw2 W n).length P = true := decide_eq_true (by omega)
  have key := dec_ok (s := pt raw2 W n) (c := pt raw W n) (n := P) (l := hoF W raw2.length n l) hck (by omega) hr (fun k => p (n + k * W)) (by rw [h1, ← hl]; exact hoF_good hW hn) (fun k hk => hoe k (by omega)) (by
    rw [h1]
    have e1 : (cN (wl raw.length W n) fun k => co (pt raw2 W n) k != co (pt raw W n) k && !(p (n + k * W))) = cN (wl raw.length W n) fun k => co raw2 (n + k * W) != co raw (n + k * W) && !(p (n + k * W)) := cN_congr fun k _ => by rw [pt_co _ hW, pt_co _ hW]
    rw [e1]; exact hd)
  rw [key, dfc_cN, h1]
  have e2 : (cN (wl raw.length W n) fun k => co (pt raw2 W n) k != co (pt raw W n) k) = cN (wl raw.length W n) fun k => co raw2 (n + k * W) != co raw (n + k * W) := cN_congr fun k _ => by rw [pt_co _ hW, pt_co _ hW]
  rw [e2]
theorem sumW_ok {raw raw2 : Bytes} {W P : Nat} {l : List Int} {f : Nat → Nat} : ∀ n, (∀ m, m < n → (dwF raw2 W P l m).2.1 = (f m : Int)) → sumW raw2 W P l n = ((sumN f n : Nat) : Int)
  | 0, _ => rfl
  | n + 1, h => by
    rw [sumW, sumW_ok (raw := raw) n fun m hm => h m (by omega), h n (by omega), sumN]; omega
/-- A page that is kept, of which bytes may be others, or lost: it comes back. -/
theorem wback {H : Heap} {x3 : Sl} {l : List Int} (hr : Row H 1 x3 (intC l)) (hl : l.length < 100000) {s raw2 : Bytes} {P W D : Nat} (h : ShOK s.length P W D) (seed : Int) (hraw : raw2.length = s.length + W * P) (p : Nat → Bool) (hp : ∀ k, k < s.length + W * P → (p k = true ↔ (k : Int) ∈ l))
    (hd : ∀ n, n < W → 2 * (cN (wl (s.length + W * P) W n) fun k => co raw2 (n + k * W) != co (rawF s W P seed) (n + k * W) && !(p (n + k * W))) + (cN (wl (s.length + W * P) W n) fun k => p (n + k * W)) ≤ P) :
    ∃ G, Keep (fun _ => False) H G ∧ weave_Decode raw2 (shT W D P (s.length + W * P)) seed x3 H = some ((s, ((cN (s.length + W * P) fun k => co raw2 k != co (rawF s W P seed) k : Nat) : Int), 0, ()), G) := by
  obtain ⟨w1, w2, w3, w4⟩ := h.wd
  have hp0 := h.p0
  have hp1 := h.p1
  have hsW := h.sW
  have htl := tF_len s seed
  have hrl := rawF_len s W P seed
  have hword : ∀ n, n < W → pt (rawF s W P seed) W n = encF (pt (tF s seed) W n) P := fun n hn => raw_word w1 hn (by rw [htl]; exact hsW)
  have hdw : ∀ n, n < W → dwF raw2 W P l n = (encF (pt (tF s seed) W n) P, ((cN (wl (s.length + W * P) W n) fun k => co raw2 (n + k * W) != co (rawF s W P seed) (n + k * W) : Nat) : Int), 0) := fun n hn => by
    have hle := wl_le (L := s.length) (W := W) (n := n)
    rw [← h.d] at hle
    have hpos := wl_pos (L := s.length) (n := n) w1 (by omega)
    have hwa := wl_add (L := s.length) (n := n) P w1 (by omega)
    have := dw_ok (raw := rawF s W P seed) (raw2 := raw2) (W := W) (P := P) (n := n) (l := l) w1 hn (by rw [hrl, hraw]) ⟨by omega, hp1⟩ (by rw [hrl]; omega) (by rw [hword n hn]; exact enc_right _ _) p (fun k hk => hp k (by rw [← hrl]; exact hk)) (by rw [hrl]; exact hd n hn)
    rw [hrl, hword n hn] at this
    exact this
  obtain ⟨G, k1, hx⟩ := wdecode_eq hr hl h seed hraw
  refine ⟨G, k1, ?_⟩
  rcases hx with ⟨_, hx⟩ | ⟨n, hn, hc, _, _⟩
  · rw [hx, back_ok h fun n hn => by rw [hdw n hn], sumW_ok (raw := s) (f := fun n => cN (wl (s.length + W * P) W n) fun k => co raw2 (n + k * W) != co (rawF s W P seed) (n + k * W)) W fun m hm => by rw [hdw m hm], sum_classes w1 (fun j => co raw2 j != co (rawF s W P seed) j)]
  · rw [hdw n hn] at hc
    exact absurd rfl hc
end Ev
