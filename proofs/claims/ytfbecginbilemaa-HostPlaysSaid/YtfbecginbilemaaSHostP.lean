/- The host: what a chip tells of itself. -/
import Derived.Test.YtfbecginbilemaaSHostB
import Derived.Test.YtfbecginbilemaaGLaw32
import Derived.Test.YtfbecginbilemaaSRef01
import Derived.Test.YtfbecginbilemaaSRef04
namespace Ev
open Go (IntKind)

def parOK (s : Bytes) : Bool := decide (crcMore 0 (s.take 20) = valB (s.drop 20)) && decide (valB ((s.drop 15).take 2) = 32)
def parG (s : Bytes) : Geo := ((valB ((s.drop 3).take 4) : Int), (valB ((s.drop 7).take 4) : Int), (valB ((s.drop 11).take 4) : Int), ())
def geoB (g : Geo) : Blk := .cells [.int .i64 g.1, .int .i64 g.2.1, .int .i64 g.2.2.1] .exact
theorem val4 (s : Bytes) (n : Nat) : valB ((s.drop n).take 4) < 4294967296 := by
  have h := valB_lt ((s.drop n).take 4)
  have h2 : ((s.drop n).take 4).length ≤ 4 := by rw [List.length_take]; omega
  have h3 : 256 ^ ((s.drop n).take 4).length ≤ 256 ^ 4 := Nat.pow_le_pow_right (by decide) h2
  exact Nat.lt_of_lt_of_le h h3
theorem host_param_eq (s : Bytes) (hs : s.length = 24) : host_param s = some (parG s, parOK s, ()) := by
  unfold host_param host_param.on
  have kb : ∀ (A : Blk) (s : Bytes), 3 ≤ s.length → code_Reader_Bytes (some (1, 0)) 3 [A, rdr s 0] = some ((s.take 3, ()), [A, rdr (s.drop 3) 0]) := fun A s h => code_Bytes_eq (H := [A, rdr s 0]) (b := 1) (n := 3) rfl h
  have k4 : ∀ (A : Blk) (s : Bytes), 4 ≤ s.length → code_Reader_Fixed (some (1, 0)) 4 [A, rdr s 0] = some ((((valB (s.take 4) : Nat) : Int), ()), [A, rdr (s.drop 4) 0]) := fun A s h => code_RFixed_eq (H := [A, rdr s 0]) (b := 1) (n := 4) rfl h (by decide)
  have k2 : ∀ (A B : Blk) (s : Bytes), 2 ≤ s.length → code_Reader_Fixed (some (1, 0)) 2 [A, rdr s 0, B] = some ((((valB (s.take 2) : Nat) : Int), ()), [A, rdr (s.drop 2) 0, B]) := fun A B s h => code_RFixed_eq (H := [A, rdr s 0, B]) (b := 1) (n := 2) rfl h (by decide)
  have k5 : ∀ (A B C : Blk) (s : Bytes), 4 ≤ s.length → code_Reader_Fixed (some (3, 0)) 4 [A, B, C, rdr s 0] = some ((((valB (s.take 4) : Nat) : Int), ()), [A, B, C, rdr (s.drop 4) 0]) := fun A B C s h => code_RFixed_eq (H := [A, B, C, rdr s 0]) (b := 3) (n := 4) rfl h (by decide)
  have n1 : code_New s [geoB (0, 0, 0, ())] = some ((some (1, 0), ()), [geoB (0, 0, 0, ()), rdr s 0]) := rfl
  have n2 : ∀ (A B C : Blk) (s : Bytes), code_New s [A, B, C] = some ((some (3, 0), ()), [A, B, C, rdr s 0]) := fun _ _ _ _ => rfl
  have q1 : ([] : Heap) ++ [Blk.cells [.int .i64 0, .int .i64 0, .int .i64 0] .exact] = [geoB (0, 0, 0, ())] := rfl
  have q2 : ∀ A B : Blk, [A, B] ++ [Blk.cells [.int .i64 0, .int .i64 0, .int .i64 0] .exact] = [A, B, geoB (0, 0, 0, ())] := fun _ _ => rfl
  have w2 : ∀ (A B : Blk) (g : Geo), wr [A, B, geoB (0, 0, 0, ())] [A, B].length 0 [.int .i64 g.1, .int .i64 g.2.1, .int .i64 g.2.2.1] = some [A, B, geoB g] := fun _ _ _ => rfl
  have rg : ∀ (A B C : Blk) (g : Geo), @Eq (Option Geo) (rd [A, B, geoB g, C] (.agg [.int .i64, .int .i64, .int .i64]) 2 0) (some g) := fun _ _ _ _ => rfl
  have wg : ∀ (A B C : Blk) (g : Geo), wr [geoB (0, 0, 0, ()), A, B, C] ([] : Heap).length 0 [.int .i64 g.1, .int .i64 g.2.1, .int .i64 g.2.2.1] = some [geoB g, A, B, C] := fun _ _ _ _ => rfl
  have rz : ∀ (A B C : Blk) (g : Geo), @Eq (Option Geo) (rd [geoB g, A, B, C] (.agg [.int .i64, .int .i64, .int .i64]) ([] : Heap).length 0) (some g) := fun _ _ _ _ => rfl
  have hw : ∀ n : Nat, n < 4294967296 → IntKind.wrap .i64 (n : Int) = (n : Int) := fun n h => wrap_i64 (by omega) (by omega)
  have v1 := val4 s 3
  have v2 := val4 s 7
  have v3 := val4 s 11
  have t1 := kb (geoB (0, 0, 0, ())) s (by omega)
  have t2 := k4 (geoB (0, 0, 0, ())) (s.drop 3) (by rw [List.length_drop]; omega)
  have t3 := k4 (geoB (0, 0, 0, ())) ((s.drop 3).drop 4) (by simp only [List.length_drop]; omega)
  have t4 := k4 (geoB (0, 0, 0, ())) (((s.drop 3).drop 4).drop 4) (by simp only [List.length_drop]; omega)
  have t5 := fun B => k2 (geoB (0, 0, 0, ())) B ((((s.drop 3).drop 4).drop 4).drop 4) (by simp only [List.length_drop]; omega)
  have hs1 : subS s 0 (IntKind.wrap .i64 ((s.length : Int) - 4)) = some (s.take 20) := by
    rw [hs, show IntKind.wrap .i64 (((24 : Nat) : Int) - 4) = ((20 : Nat) : Int) from by rw [wrap_i64 (by decide) (by decide)]; rfl]
    have := sub_of (s := s) (lo := 0) (hi := 20) (by decide) (by omega)
    rwa [List.drop_zero] at this
  have hs2 : subS s (IntKind.wrap .i64 ((s.length : Int) - 4)) (s.length : Int) = some (s.drop 20) := by
    rw [hs, show IntKind.wrap .i64 (((24 : Nat) : Int) - 4) = ((20 : Nat) : Int) from by rw [wrap_i64 (by decide) (by decide)]; rfl]
    have := sub_of (s := s) (lo := 20) (hi := 24) (by decide) (by omega)
    rwa [List.take_of_length_le (by omega)] at this
  have hc := crc_Sum_eq (s.take 20) (by rw [List.length_take]; omega)
  have hcl := crcMore_lt (c := 0) (s := s.take 20) (by decide)
  have hwu : IntKind.wrap .u64 ((crcMore 0 (s.take 20) : Nat) : Int) = ((crcMore 0 (s.take 20) : Nat) : Int) := by rw [wrap_u64]; omega
  simp only [List.drop_drop, show 3 + 4 = 7 from rfl, show 7 + 4 = 11 from rfl, show 11 + 4 = 15 from rfl] at t2 t3 t4 t5
  have t6 := fun A B C => k5 A B C (s.drop 20) (by rw [List.length_drop]; omega)
  have t7 : (s.drop 20).take 4 = s.drop 20 := List.take_of_length_le (by rw [List.length_drop]; omega)
  have l2 : ∀ A B : Blk, [A, B].length = 2 := fun _ _ => rfl
  have w2' : ∀ (A B : Blk), wr [A, B, geoB (0, 0, 0, ())] 2 0 [.int .i64 (valB ((s.drop 3).take 4) : Int), .int .i64 (valB ((s.drop 7).take 4) : Int), .int .i64 (valB ((s.drop 11).take 4) : Int)] = some [A, B, geoB (parG s)] := fun A B => w2 A B (parG s)
  have wg' : ∀ (A B C : Blk), wr [geoB (0, 0, 0, ()), A, B, C] ([] : Heap).length 0 [.int .i64 (parG s).1, .int .i64 (parG s).2.1, .int .i64 (parG s).2.2.1] = some [geoB (parG s), A, B, C] := fun A B C => wg A B C (parG s)
  simp only [q1, n1, bind_some, t1, t2, t3, t4, q2, l2, hw _ v1, hw _ v2, hw _ v3, w2', t5, hs1, hc, hs2, n2, t6, rg, hwu, t7, wg', rz]
  unfold parOK
  by_cases h1 : crcMore 0 (s.take 20) = valB (s.drop 20)
  · rw [decide_eq_true h1, decide_eq_true (show ((crcMore 0 (s.take 20) : Nat) : Int) = ((valB (s.drop 20) : Nat) : Int) by omega), cond_t, Bool.true_and]
    by_cases h2 : valB ((s.drop 15).take 2) = 32
    · rw [decide_eq_true h2, decide_eq_true (show ((valB ((s.drop 15).take 2) : Nat) : Int) = 32 by omega)]
    · rw [decide_eq_false h2, decide_eq_false (show ¬ ((valB ((s.drop 15).take 2) : Nat) : Int) = 32 by omega)]
  · rw [decide_eq_false h1, decide_eq_false (show ¬ ((crcMore 0 (s.take 20) : Nat) : Int) = ((valB (s.drop 20) : Nat) : Int) by omega), cond_f, Bool.false_and]
/-- The document's answer is the same. -/
theorem right_eq (s : Bytes) (hs : s.length = 24) : law32_right s = some (parOK s, ()) := by
  unfold law32_right law32_right.on
  have s1 := sub_of (s := s) (lo := 3) (hi := 17) (by decide) (by omega)
  have s1' : subS s 3 17 = some ((s.take 17).drop 3) := s1
  have s2 : subS s 20 (s.length : Int) = some (s.drop 20) := by
    have := sub_of (s := s) (lo := 20) (hi := s.length) (by omega) (Nat.le_refl _)
    rwa [List.take_length] at this
  have s3 : subS s 0 20 = some (s.take 20) := by
    have := sub_of (s := s) (lo := 0) (hi := 20) (by decide) (by omega)
    rwa [List.drop_zero] at this
  have a1 := at_Bytes_eq (s := (s.take 17).drop 3) (n := 12) (by rw [List.length_drop, List.length_take]; omega)
  have a2 := at_Fixed_eq (s := ((s.take 17).drop 3).drop 12) (n := 2) (by simp only [List.length_drop, List.length_take]; omega) (by decide)
  have a3 := at_Fixed_eq (s := s.drop 20) (n := 4) (by rw [List.length_drop]; omega) (by decide)
  have a1' : ref04_At_Bytes ((s.take 17).drop 3, 0, ()) 12 = some ((((s.take 17).drop 3).drop 12, 0, ()), ((s.take 17).drop 3).take 12, ()) := a1
  have a2' : ref04_At_Fixed (((s.take 17).drop 3).drop 12, 0, ()) 2 = some (((((s.take 17).drop 3).drop 12).drop 2, 0, ()), ((valB ((((s.take 17).drop 3).drop 12).take 2) : Nat) : Int), ()) := a2
  have a3' : ref04_At_Fixed (s.drop 20, 0, ()) 4 = some (((s.drop 20).drop 4, 0, ()), ((valB ((s.drop 20).take 4) : Nat) : Int), ()) := a3
  have t7 : (s.drop 20).take 4 = s.drop 20 := List.take_of_length_le (by rw [List.length_drop]; omega)
  have t8 : (((s.take 17).drop 3).drop 12).take 2 = (s.drop 15).take 2 := by
    rw [List.drop_drop, List.drop_take, List.take_take]; rfl
  rw [t7] at a3'
  rw [t8] at a2'
  have hc := ref01_Sum_eq (s.take 20) (by rw [List.length_take]; omega)
  have hcl := crcMore_lt (c := 0) (s := s.take 20) (by decide)
  have hwu : IntKind.wrap .u64 ((crcMore 0 (s.take 20) : Nat) : Int) = ((crcMore 0 (s.take 20) : Nat) : Int) := by rw [wrap_u64]; omega
  have ww : ∀ (G : Heap) (t : Bytes), wr (G ++ [Blk.cells [.str [], .int .i64 0] .exact]) G.length 0 [.str t, .int .i64 0] = some (G ++ [Blk.cells [.str t, .int .i64 0] .exact]) := fun G t => by
    rw [wr_last (by decide) (by simp)]; rfl
  have rr : ∀ (G : Heap) (t : Bytes), @Eq (Option (Bytes × Int × Unit)) (rd (G ++ [Blk.cells [.str t, .int .i64 0] .exact]) (.agg [.str, .int .i64]) G.length 0) (some (t, 0, ())) := fun G t => rd_agg_of app_last (by simp) rfl
  simp only [s1', bind_some, ww, rr, a1', a2', s2, a3', s3, hc, hwu]
  unfold parOK
  by_cases h2 : valB ((s.drop 15).take 2) = 32
  · rw [decide_eq_true h2, decide_eq_true (show ((valB ((s.drop 15).take 2) : Nat) : Int) = 32 by omega), cond_t, Bool.and_true]
    by_cases h1 : crcMore 0 (s.take 20) = valB (s.drop 20)
    · rw [decide_eq_true h1, decide_eq_true (show ((valB (s.drop 20) : Nat) : Int) = ((crcMore 0 (s.take 20) : Nat) : Int) by omega)]
    · rw [decide_eq_false h1, decide_eq_false (show ¬ ((valB (s.drop 20) : Nat) : Int) = ((crcMore 0 (s.take 20) : Nat) : Int) by omega)]
  · rw [decide_eq_false h2, decide_eq_false (show ¬ ((valB ((s.drop 15).take 2) : Nat) : Int) = 32 by omega), cond_f, Bool.and_false]
end Ev
namespace Ev
open Go (IntKind)

theorem or_range (a b : Int) : 0 ≤ bitsI .or .u8 a b ∧ bitsI .or .u8 a b < 256 := by
  show 0 ≤ IntKind.wrap .u8 _ ∧ IntKind.wrap .u8 _ < 256
  rw [wrap_u8]
  omega
theorem byte_back {x : Int} (h : 0 ≤ x ∧ x < 256) : (((UInt8.ofNat x.toNat).toNat : Nat) : Int) = x := by
  have : (UInt8.ofNat x.toNat).toNat = x.toNat := by simp; omega
  rw [this]; omega
def at8 (x : Bytes) (i : Nat) : Int := (((x[i]?.getD 0).toNat : Nat) : Int)
theorem idx_at {x : Bytes} {i : Nat} (h : i < x.length) : idxS x (i : Int) = some (at8 x i) := by
  rw [idx_of h]
  unfold at8
  rw [List.getElem?_eq_getElem h]; rfl
def majV (x : Bytes) (i : Nat) : Int := bitsI .or .u8 (bitsI .or .u8 (bitsI .and .u8 (at8 x i) (at8 x (i + 24))) (bitsI .and .u8 (at8 x i) (at8 x (i + 48)))) (bitsI .and .u8 (at8 x (i + 24)) (at8 x (i + 48)))
def majN (x : Bytes) (i : Nat) : Bytes := (List.range i).map fun j => UInt8.ofNat (majV x j).toNat
def majB (x : Bytes) : Bytes := majN x 24
theorem majN_length (x : Bytes) (i : Nat) : (majN x i).length = i := by simp [majN]
theorem majN_succ (x : Bytes) (i : Nat) : majN x (i + 1) = majN x i ++ [UInt8.ofNat (majV x i).toNat] := by simp [majN, List.range_succ]
theorem maj_set (x : Bytes) (m i : Nat) (hi : i < m) : setL (cellsOf (majN x i ++ List.replicate (m - i) 0)) i [.int .u8 (majV x i)] = cellsOf (majN x (i + 1) ++ List.replicate (m - (i + 1)) 0) := by
  rw [show m - i = (m - (i + 1)) + 1 by omega, List.replicate_succ, majN_succ, cells_app]
  have := setL_mid [.int .u8 (majV x i)] [.int .u8 0] (cellsOf (majN x i)) (cellsOf (List.replicate (m - (i + 1)) 0)) i (by rw [cells_len, majN_length]) rfl
  rw [List.append_assoc, List.append_assoc] at this
  refine this.trans ?_
  rw [List.append_assoc, cells_app]
  show _ ++ ([C.int .u8 (majV x i)] ++ _) = _ ++ (([C.int .u8 (((UInt8.ofNat (majV x i).toNat).toNat : Nat) : Int)]) ++ _)
  rw [byte_back (x := majV x i) (or_range _ _)]
  rfl
theorem maj_wr {G : Heap} {c : Nat} (x : Bytes) {i : Nat} (hi : i < 24) (hc : G[c]? = some (.cells (cellsOf (majN x i ++ List.replicate (24 - i) 0)) .exact)) : wr G c i [.int .u8 (majV x i)] = some (G.set c (.cells (cellsOf (majN x (i + 1) ++ List.replicate (24 - (i + 1)) 0)) .exact)) := by
  have w1 := wr_of (o := i) (new := [.int .u8 (majV x i)]) hc (by decide) (by rw [cells_len, List.length_append, majN_length, List.length_replicate]; show i + 1 ≤ _; omega)
  rwa [maj_set x 24 i hi] at w1
theorem maj_str {G : Heap} {c : Nat} (x : Bytes) (hc : G[c]? = some (.cells (cellsOf (majN x 24 ++ List.replicate (24 - 24) 0)) .exact)) : strOf G ⟨some (c, 0), 24, 24⟩ = some (majB x) :=
  strOf_of hc (by rw [cells_len, List.length_append, majN_length]; omega) (by
    rw [Nat.sub_self, show List.replicate 0 (0 : UInt8) = [] from rfl, List.append_nil, List.drop_zero, List.take_of_length_le]
    · rfl
    · rw [cells_len, majN_length]; exact Nat.le_refl _)
theorem host_majority_eq (x : Bytes) (hx : x.length = 72) : host_majority x 24 = some (majB x, ()) := by
  unfold host_majority host_majority.on
  have hmk : mkS ([] : Heap) 1 [.int .u8 0] 24 24 = some (⟨some (0, 0), 24, 24⟩, [.cells (cellsOf (List.replicate 24 0)) .exact]) := mkS_u8 (H := []) (n := 24) (by decide)
  obtain ⟨y, G, l1, l2⟩ := loop_rise (step := host_majority.s1 x 24 (⟨some (0, 0), 24, 24⟩, [.cells (cellsOf (List.replicate 24 0)) .exact])) 24
    (fun i z G => z = ((i : Int), ()) ∧ G[0]? = some (.cells (cellsOf (majN x i ++ List.replicate (24 - i) 0)) .exact)) (fun _ G => G[0]? = some (.cells (cellsOf (majN x 24 ++ List.replicate (24 - 24) 0)) .exact))
    (by
      rintro i _ G hi ⟨rfl, hc⟩
      have hat : Sl.at 1 ⟨some (0, 0), 24, 24⟩ (i : Int) = some (0, i) := by rw [at_of (by omega) (by show (i : Int) < ((24 : Nat) : Int); omega), Int.toNat_natCast, Nat.mul_one, Nat.zero_add]
      have e1 : IntKind.wrap .i64 ((i : Int) + 24) = ((i + 24 : Nat) : Int) := by rw [wrap_i64 (by omega) (by omega)]; omega
      have e2 : IntKind.wrap .i64 ((i : Int) + IntKind.wrap .i64 (2 * 24)) = ((i + 48 : Nat) : Int) := by rw [show IntKind.wrap .i64 (2 * 24) = 48 from by rw [wrap_i64 (by decide) (by decide)]; rfl, wrap_i64 (by omega) (by omega)]; omega
      have w1 := maj_wr x hi hc
      unfold majV at w1
      refine .inl ⟨(((i + 1 : Nat) : Int), ()), _, ?_, rfl, set_get (get_lt hc)⟩
      unfold host_majority.s1
      simp only [decide_eq_true (show (i : Int) < ((24 : Nat) : Int) by omega), cond_t, idx_at (show i < x.length by omega), bind_some, e1, e2, idx_at (show i + 24 < x.length by omega), idx_at (show i + 48 < x.length by omega), hat, w1, wrap_succ (show i < 9223372036854775807 by omega)])
    (by
      rintro _ G ⟨rfl, hc⟩
      refine ⟨(), G, ?_, hc⟩
      unfold host_majority.s1
      simp only [decide_eq_false (show ¬ ((24 : Nat) : Int) < ((24 : Nat) : Int) by omega), cond_f])
    (y := (((0 : Nat) : Int), ())) (H := [.cells (cellsOf (List.replicate 24 0)) .exact]) ⟨rfl, rfl⟩
  have l1' : loopW (host_majority.s1 x 24 (⟨some (0, 0), 24, 24⟩, [.cells (cellsOf (List.replicate 24 0)) .exact])) (0, ()) [.cells (cellsOf (List.replicate 24 0)) .exact] = some (y, G) := l1
  simp only [hmk, bind_some, l1', maj_str x l2]
def cpy (x : Bytes) (i : Nat) : Bytes := (x.take ((i + 1) * 24)).drop (i * 24)
theorem cpy_length (x : Bytes) (hx : x.length = 72) {i : Nat} (hi : i < 3) : (cpy x i).length = 24 := by
  unfold cpy
  rw [List.length_drop, List.length_take]; omega
theorem geo_set {G : Heap} {c : Nat} {g g' : Geo} (h : G[c]? = some (geoB g)) : wr G c 0 [.int .i64 g'.1, .int .i64 g'.2.1, .int .i64 g'.2.2.1] = some (G.set c (geoB g')) := by
  rw [wr_of h (by decide) (by simp)]; rfl
theorem host_Params_eq (x : Bytes) (hx : x.length = 72) : ∃ g, host_Params x = some (g, (parOK (cpy x 0) || (parOK (cpy x 1) || (parOK (cpy x 2) || parOK (majB x)))), ()) ∧ (parOK (cpy x 0) = true → g = parG (cpy x 0)) ∧ ((parOK (cpy x 0) || (parOK (cpy x 1) || (parOK (cpy x 2) || parOK (majB x)))) = false → g = (0, 0, 0, ())) := by
  unfold host_Params host_Params.on
  have q1 : ([] : Heap) ++ [Blk.cells [.int .i64 0, .int .i64 0, .int .i64 0] .exact] = [geoB (0, 0, 0, ())] := rfl
  have hd : (!decide ((x.length : Int) = 72)) = false := by rw [decide_eq_true (show (x.length : Int) = 72 by omega)]; rfl
  have hpush : ∀ (G : Heap) (g : Geo), wr (G ++ [Blk.cells [.int .i64 0, .int .i64 0, .int .i64 0] .exact]) G.length 0 [.int .i64 g.1, .int .i64 g.2.1, .int .i64 g.2.2.1] = some (G ++ [geoB g]) := fun G g => by
    rw [wr_last (by decide) (by simp)]; rfl
  have hrg : ∀ (G : Heap) (g : Geo), @Eq (Option Geo) (rd (G ++ [geoB g]) (.agg [.int .i64, .int .i64, .int .i64]) G.length 0) (some g) := fun G g => rd_geo app_last
  obtain ⟨y, G, l1, l2⟩ := loop_rise (step := host_Params.s1 x []) 3
    (fun i z G => z = ((i : Int), ()) ∧ G[0]? = some (geoB (0, 0, 0, ())) ∧ ∀ j, j < i → parOK (cpy x j) = false)
    (fun y G => (y = .inr (true, ()) ∧ ∃ i, i < 3 ∧ parOK (cpy x i) = true ∧ G[0]? = some (geoB (parG (cpy x i))) ∧ ∀ j, j < i → parOK (cpy x j) = false) ∨ (y = .inl () ∧ G[0]? = some (geoB (0, 0, 0, ())) ∧ ∀ j, j < 3 → parOK (cpy x j) = false))
    (by
      rintro i _ G hi ⟨rfl, hc, hj⟩
      have e1 : IntKind.wrap .i64 ((i : Int) * 24) = ((i * 24 : Nat) : Int) := by rw [wrap_i64 (by omega) (by omega)]; omega
      have e2 : IntKind.wrap .i64 (((i + 1 : Nat) : Int) * 24) = (((i + 1) * 24 : Nat) : Int) := by rw [wrap_i64 (by omega) (by omega)]; omega
      have hs := sub_of (s := x) (lo := i * 24) (hi := (i + 1) * 24) (by omega) (by omega)
      have hs' : subS x ((i * 24 : Nat) : Int) (((i + 1) * 24 : Nat) : Int) = some (cpy x i) := hs
      have hp := host_param_eq (cpy x i) (cpy_length x hx hi)
      cases hok : parOK (cpy x i) with
      | true =>
        rw [hok] at hp
        have h0 : (G ++ [geoB (parG (cpy x i))])[0]? = some (geoB (0, 0, 0, ())) := by rw [app_lt (get_lt hc)]; exact hc
        refine .inr ⟨.inr (true, ()), _, ?_, .inl ⟨rfl, i, hi, hok, set_get (get_lt h0), hj⟩⟩
        unfold host_Params.s1
        simp only [decide_eq_true (show (i : Int) < 3 by omega), cond_t, e1, wrap_succ (show i < 9223372036854775807 by omega), e2, hs', bind_some, hp, hpush, hrg, List.length_nil, geo_set h0]
      | false =>
        rw [hok] at hp
        refine .inl ⟨(((i + 1 : Nat) : Int), ()), G ++ [geoB (parG (cpy x i))], ?_, rfl, by rw [app_lt (get_lt hc)]; exact hc, fun j hji => ?_⟩
        · unfold host_Params.s1
          simp only [decide_eq_true (show (i : Int) < 3 by omega), cond_t, e1, wrap_succ (show i < 9223372036854775807 by omega), e2, hs', bind_some, hp, hpush, cond_f]
        · by_cases he : j = i
          · rw [he]; exact hok
          · exact hj j (by omega))
    (by
      rintro _ G ⟨rfl, hc, hj⟩
      refine ⟨.inl (), G, ?_, .inr ⟨rfl, hc, hj⟩⟩
      unfold host_Params.s1
      simp only [decide_eq_false (show ¬ ((3 : Nat) : Int) < 3 by decide), cond_f])
    (y := (((0 : Nat) : Int), ())) (H := [geoB (0, 0, 0, ())]) ⟨rfl, rfl, fun j hj => absurd hj (by omega)⟩
  have l1' : loopW (host_Params.s1 x []) (0, ()) [geoB (0, 0, 0, ())] = some (y, G) := l1
  rcases l2 with ⟨rfl, i, hi, hok, hc, hj⟩ | ⟨rfl, hc, hj⟩
  · have hr : @Eq (Option Geo) (rd G (.agg [.int .i64, .int .i64, .int .i64]) 0 0) (some (parG (cpy x i))) := rd_geo hc
    have hor : (parOK (cpy x 0) || (parOK (cpy x 1) || (parOK (cpy x 2) || parOK (majB x)))) = true := by
      match i, hi, hok with
      | 0, _, h => rw [h]; rfl
      | 1, _, h => rw [h]; simp
      | 2, _, h => rw [h]; simp
    refine ⟨parG (cpy x i), ?_, fun h0 => ?_, fun hh => by rw [hor] at hh; cases hh⟩
    · rw [hor]
      simp only [q1, List.length_nil, hd, cond_f, l1', bind_some, sum1, hr]
    · by_cases hi0 : i = 0
      · rw [hi0]
      · rw [hj 0 (by omega)] at h0; cases h0
  · have hp := host_param_eq (majB x) (majN_length x 24)
    have h0 : (G ++ [geoB (parG (majB x))])[0]? = some (geoB (0, 0, 0, ())) := by rw [app_lt (get_lt hc)]; exact hc
    rw [hj 0 (by decide), hj 1 (by decide), hj 2 (by decide)]
    simp only [Bool.false_or]
    cases hok : parOK (majB x) with
    | true =>
      rw [hok] at hp
      refine ⟨parG (majB x), ?_, fun hh => (by cases hh), fun hh => (by cases hh)⟩
      have hr : @Eq (Option Geo) (rd ((G ++ [geoB (parG (majB x))]).set 0 (geoB (parG (majB x)))) (.agg [.int .i64, .int .i64, .int .i64]) 0 0) (some (parG (majB x))) := rd_geo (set_get (get_lt h0))
      simp only [q1, List.length_nil, hd, cond_f, l1', bind_some, sum0, host_majority_eq x hx, hp, hpush, Bool.not_true, hrg, geo_set h0, hr]
    | false =>
      rw [hok] at hp
      refine ⟨(0, 0, 0, ()), ?_, fun hh => (by cases hh), fun _ => rfl⟩
      have hz : wr (G ++ [geoB (parG (majB x))]) 0 0 [.int .i64 0, .int .i64 0, .int .i64 0] = some ((G ++ [geoB (parG (majB x))]).set 0 (geoB (0, 0, 0, ()))) := geo_set (g' := (0, 0, 0, ())) h0
      have hr : @Eq (Option Geo) (rd ((G ++ [geoB (parG (majB x))]).set 0 (geoB (0, 0, 0, ()))) (.agg [.int .i64, .int .i64, .int .i64]) 0 0) (some (0, 0, 0, ())) := rd_geo (g := (0, 0, 0, ())) (set_get (get_lt h0))
      simp only [q1, List.length_nil, hd, cond_f, l1', bind_some, sum0, host_majority_eq x hx, hp, hpush, Bool.not_false, cond_t, hz, hr]
end Ev
