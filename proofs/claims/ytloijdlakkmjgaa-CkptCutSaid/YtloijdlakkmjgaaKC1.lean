/- P0 Lp Ap Arr Rws SSlices SNand SNandF -/
import Derived.Test.YtloijdlakkmjgaaEvCore
import Derived.Test.YtloijdlakkmjgaaEvLoop
import Derived.Test.YtloijdlakkmjgaaEvOpen
import Derived.Test.YtloijdlakkmjgaaGSlices
import Derived.Test.YtloijdlakkmjgaaGNand
/- Plain facts on numbers as the evaluator has them: wrapping, bitwise operators on natural numbers, shifts. -/
namespace Ev
open Go (IntKind)

theorem wrapU {k : IntKind} (hk : k.signed = false) (n : Int) : k.wrap n = n % (2 ^ k.bits : Int) := by
  simp [IntKind.wrap, hk]
theorem wrap_u8 (n : Int) : IntKind.wrap .u8 n = n % 256 := by simp [IntKind.wrap, IntKind.signed, IntKind.bits]
theorem wrap_u16 (n : Int) : IntKind.wrap .u16 n = n % 65536 := by simp [IntKind.wrap, IntKind.signed, IntKind.bits]
theorem wrap_u32 (n : Int) : IntKind.wrap .u32 n = n % 4294967296 := by simp [IntKind.wrap, IntKind.signed, IntKind.bits]
theorem wrap_u64 (n : Int) : IntKind.wrap .u64 n = n % 18446744073709551616 := by simp [IntKind.wrap, IntKind.signed, IntKind.bits]

theorem ofInt_nat (w a : Nat) (h : a < 2 ^ w) : (BitVec.ofInt w (a : Int)).toNat = a := by
  rw [BitVec.ofInt_natCast]; simp [Nat.mod_eq_of_lt h]

theorem xor_nat {k : IntKind} (hk : k.signed = false) {a b : Nat} (ha : a < 2 ^ k.bits) (hb : b < 2 ^ k.bits) : bitsI .xor k (a : Int) (b : Int) = ((a ^^^ b : Nat) : Int) := by
  simp only [bitsI]
  rw [wrapU hk, BitVec.toNat_xor, ofInt_nat _ _ ha, ofInt_nat _ _ hb]
  have := Nat.xor_lt_two_pow ha hb
  rw [Int.emod_eq_of_lt (by omega) (by exact_mod_cast this)]
theorem and_nat {k : IntKind} (hk : k.signed = false) {a b : Nat} (ha : a < 2 ^ k.bits) (hb : b < 2 ^ k.bits) : bitsI .and k (a : Int) (b : Int) = ((a &&& b : Nat) : Int) := by
  simp only [bitsI]
  rw [wrapU hk, BitVec.toNat_and, ofInt_nat _ _ ha, ofInt_nat _ _ hb]
  have := Nat.and_lt_two_pow a hb
  rw [Int.emod_eq_of_lt (by omega) (by exact_mod_cast this)]
theorem or_nat {k : IntKind} (hk : k.signed = false) {a b : Nat} (ha : a < 2 ^ k.bits) (hb : b < 2 ^ k.bits) : bitsI .or k (a : Int) (b : Int) = ((a ||| b : Nat) : Int) := by
  simp only [bitsI]
  rw [wrapU hk, BitVec.toNat_or, ofInt_nat _ _ ha, ofInt_nat _ _ hb]
  have := Nat.or_lt_two_pow ha hb
  rw [Int.emod_eq_of_lt (by omega) (by exact_mod_cast this)]

theorem xor32 {a b : Nat} (ha : a < 4294967296) (hb : b < 4294967296) : bitsI .xor .u32 (a : Int) (b : Int) = ((a ^^^ b : Nat) : Int) := xor_nat rfl ha hb
theorem and32 {a b : Nat} (ha : a < 4294967296) (hb : b < 4294967296) : bitsI .and .u32 (a : Int) (b : Int) = ((a &&& b : Nat) : Int) := and_nat rfl ha hb
theorem xor8 {a b : Nat} (ha : a < 256) (hb : b < 256) : bitsI .xor .u8 (a : Int) (b : Int) = ((a ^^^ b : Nat) : Int) := xor_nat rfl ha hb
theorem and8 {a b : Nat} (ha : a < 256) (hb : b < 256) : bitsI .and .u8 (a : Int) (b : Int) = ((a &&& b : Nat) : Int) := and_nat rfl ha hb
theorem or64 {a b : Nat} (ha : a < 18446744073709551616) (hb : b < 18446744073709551616) : bitsI .or .u64 (a : Int) (b : Int) = ((a ||| b : Nat) : Int) := or_nat rfl ha hb

theorem fdiv_nat (a : Nat) (n : Nat) : Int.fdiv (a : Int) ((n : Nat) : Int) = ((a / n : Nat) : Int) := by
  rw [Int.fdiv_eq_ediv_of_nonneg _ (by omega)]; exact (Int.natCast_ediv a n).symm
theorem shr_nat (a s : Nat) : Int.fdiv (a : Int) (2 ^ s) = ((a >>> s : Nat) : Int) := by
  rw [Nat.shiftRight_eq_div_pow, ← fdiv_nat]; norm_cast

/-- A number of int64, anded with a bound whose bits are all set. -/
theorem and_ones {k : IntKind} {x m : Int} (n : Nat) (hm : m = 2 ^ n - 1) (hn : n < k.bits) : 0 ≤ bitsI .and k x m ∧ bitsI .and k x m ≤ m := by
  have hb : (BitVec.ofInt k.bits x &&& BitVec.ofInt k.bits m).toNat ≤ m.toNat := by
    rw [BitVec.toNat_and]
    have e : (BitVec.ofInt k.bits m).toNat = m.toNat := by
      subst hm
      rw [BitVec.toNat_ofInt, Int.emod_eq_of_lt]
      · have : (0 : Int) < 2 ^ n := Int.pow_pos (by decide)
        omega
      · have h2 : (2 : Int) ^ n ≤ 2 ^ k.bits := by
          exact_mod_cast Nat.pow_le_pow_right (by decide) (Nat.le_of_lt hn)
        push_cast
        omega
    rw [e]
    exact Nat.and_le_right
  have hm0 : 0 ≤ m := by
    subst hm
    have : (0 : Int) < 2 ^ n := Int.pow_pos (by decide)
    omega
  have h2 : (2 : Int) ^ n ≤ 2 ^ (k.bits - 1) := by
    exact_mod_cast Nat.pow_le_pow_right (by decide) (by omega)
  have h3 : (2 : Int) ^ (k.bits - 1) ≤ 2 ^ k.bits := by
    exact_mod_cast Nat.pow_le_pow_right (by decide) (by omega)
  simp only [bitsI]
  generalize (BitVec.ofInt k.bits x &&& BitVec.ofInt k.bits m).toNat = q at hb
  have hq : (q : Int) ≤ m := by omega
  have : k.wrap (q : Int) = q := by
    unfold IntKind.wrap
    have e : (q : Int) % 2 ^ k.bits = q := Int.emod_eq_of_lt (by omega) (by omega)
    simp only [e]
    rw [if_neg]
    simp
    intro _
    omega
  rw [this]
  exact ⟨by omega, hq⟩
end Ev

/- Loops that count; heaps that are written out; bytes. -/
namespace Ev
open Go (IntKind)

theorem loop_for {S X : Type} {step : S → Heap → Option ((S ⊕ X) × Heap)} (n : Nat) (st : Nat → S) (hs : Nat → Heap) {x : X} {H' : Heap}
    (h : ∀ i, i < n → step (st i) (hs i) = some (.inl (st (i + 1)), hs (i + 1))) (he : step (st n) (hs n) = some (.inr x, H')) : loopW step (st 0) (hs 0) = some (x, H') := by
  have key : ∀ k i, i + k = n → iter step (k + 1) (st i) (hs i) = some (x, H') := by
    intro k
    induction k with
    | zero => intro i hi; have : i = n := by omega
              subst this; simp only [iter, he]; rfl
    | succ k ih => intro i hi; rw [iter, h i (by omega)]; exact ih (i + 1) (by omega)
  exact loopW_eq (key n 0 (by omega))
/-- The same, from whatever state equals the first one. -/
theorem loop_for' {S X : Type} {step : S → Heap → Option ((S ⊕ X) × Heap)} {s : S} {H : Heap} (n : Nat) (st : Nat → S) (hs : Nat → Heap) {x : X} {H' : Heap} (h0 : st 0 = s) (h1 : hs 0 = H)
    (h : ∀ i, i < n → step (st i) (hs i) = some (.inl (st (i + 1)), hs (i + 1))) (he : step (st n) (hs n) = some (.inr x, H')) : loopW step s H = some (x, H') := by
  rw [← h0, ← h1]; exact loop_for n st hs h he

theorem idx_of {s : Bytes} {i : Nat} (h : i < s.length) : idxS s (i : Int) = some ((s[i].toNat : Nat) : Int) := by
  unfold idxS
  have : decide (0 ≤ (i : Int)) = true := decide_eq_true (by omega)
  rw [this, cond_t, Int.toNat_natCast, List.getElem?_eq_getElem h]; rfl
theorem wrap_succ {i : Nat} (h : i < 9223372036854775807) : IntKind.wrap .i64 ((i : Int) + 1) = ((i + 1 : Nat) : Int) := by
  rw [wrap_i64 (by omega) (by omega)]; omega

theorem sub_of {s : Bytes} {lo hi : Nat} (h : lo ≤ hi) (h2 : hi ≤ s.length) : subS s (lo : Int) (hi : Int) = some ((s.take hi).drop lo) := by
  unfold subS
  have : decide (0 ≤ (lo : Int) ∧ (lo : Int) ≤ (hi : Int) ∧ (hi : Int) ≤ (s.length : Int)) = true := decide_eq_true ⟨by omega, by omega, by omega⟩
  rw [this, cond_t, Int.toNat_natCast, Int.toNat_natCast]
theorem cat_of {a b : Bytes} (h : a.length + b.length ≤ 4611686018427387904) : catS a b = some (a ++ b) := by
  unfold catS
  have : decide (a.length + b.length ≤ maxStr) = true := decide_eq_true (by unfold maxStr; omega)
  rw [this, cond_t]
theorem rep_of {s : Bytes} {n : Nat} (h : n * s.length ≤ 35184372088832) (h2 : n ≤ 35184372088832) : strings_Repeat s (n : Int) = some ((List.replicate n s).flatten, ()) := by
  unfold strings_Repeat
  have e : (n : Int) * (s.length : Int) = ((n * s.length : Nat) : Int) := (Int.natCast_mul _ _).symm
  have : decide (0 ≤ (n : Int) ∧ (n : Int) ≤ (maxRow : Int) ∧ (n : Int) * (s.length : Int) ≤ (maxRow : Int)) = true := decide_eq_true ⟨by omega, by unfold maxRow; omega, by rw [e]; unfold maxRow; omega⟩
  rw [this, cond_t, Int.toNat_natCast]
theorem flat1 (n : Nat) (b : UInt8) : (List.replicate n [b]).flatten = List.replicate n b := by
  induction n with
  | zero => rfl
  | succ n ih => rw [List.replicate_succ, List.flatten_cons, ih, List.replicate_succ]; rfl
theorem bytes_of_cells (s : Bytes) : bytesOf (cellsOf s) = some s := by
  induction s with
  | nil => rfl
  | cons b s ih =>
    show (bytesOf (cellsOf s)).bind _ = _
    rw [ih]; simp
theorem cells_len (s : Bytes) : (cellsOf s).length = s.length := by simp [cellsOf]
theorem cut_of {cs : List C} {o n : Nat} (h : o + n ≤ cs.length) : cut cs o n = some ((cs.drop o).take n) := by
  unfold cut
  rw [decide_eq_true h, cond_t]
theorem cut_all {cs : List C} {n : Nat} (h : n = cs.length) : cut cs 0 n = some cs := by
  subst h
  rw [cut_of (by omega)]; simp

/-- A text out of a block. -/
theorem strOf_of {H : Heap} {b o len cap : Nat} {cs : List C} {bk : BK} {s : Bytes} (h : H[b]? = some (.cells cs bk)) (hl : o + len ≤ cs.length) (hs : (cs.drop o).take len = cellsOf s) : strOf H ⟨some (b, o), len, cap⟩ = some s := by
  unfold strOf slRow
  simp only [Heap.row, h, Nat.mul_one, cut_of hl, hs]
  exact bytes_of_cells s
theorem strOf_nil {H : Heap} {len cap : Nat} : strOf H ⟨none, len, cap⟩ = some [] := rfl

/-! Heaps at whose end blocks are written out. -/
theorem app_last {H : Heap} {x : Blk} : (H ++ [x])[H.length]? = some x := by simp
theorem app_lt {H : Heap} {x : Blk} {b : Nat} (h : b < H.length) : (H ++ [x])[b]? = H[b]? := List.getElem?_append_left h
theorem set_last {H : Heap} {x y : Blk} : (H ++ [x]).set H.length y = H ++ [y] := by simp
theorem set_lt {H : Heap} {x y : Blk} {b : Nat} (h : b < H.length) : (H ++ [x]).set b y = H.set b y ++ [x] := List.set_append_left _ _ h

theorem wr_of {H : Heap} {b o : Nat} {cs : List C} {bk : BK} {new : List C} (h : H[b]? = some (.cells cs bk)) (hb : bk ≠ .ro) (ho : o + new.length ≤ cs.length) : wr H b o new = some (H.set b (.cells (setL cs o new) bk)) := by
  unfold wr
  simp only [h]
  rw [decide_eq_true hb, decide_eq_true ho]; rfl
theorem rd_agg_of {H : Heap} {b o : Nat} {cs : List C} {bk : BK} {ts : List CT} {x : Tup ts} (h : H[b]? = some (.cells cs bk)) (ho : o + ts.length ≤ cs.length) (hx : Tup.un ts ((cs.drop o).take ts.length) = some x) : rd H (.agg ts) b o = some x := by
  simp only [rd, Heap.row, h, cut_of ho]
  exact hx
end Ev

/- Slices that grow by append. -/
namespace Ev
open Go (IntKind)

/-- A slice that append has made, or an empty one. -/
structure Grown (H : Heap) (es : Nat) (s : Sl) (cs : List C) : Prop where
  cap : s.cap = s.len
  len : cs.length = s.len * es
  nil : s.p = none → s.len = 0
  blk : ∀ a, s.p = some a → a.2 = 0 ∧ (H[a.1]? = some (.cells cs .loose) ∨ H[a.1]? = some (.cells cs .exact))

theorem Grown.ni (H : Heap) (es : Nat) : Grown H es ⟨none, 0, 0⟩ [] := ⟨rfl, by simp, fun _ => rfl, fun a h => by cases h⟩

theorem Grown.row {H : Heap} {es : Nat} {s : Sl} {cs : List C} (h : Grown H es s cs) : slRow H es s = some cs := by
  unfold slRow
  cases hp : s.p with
  | none =>
    have := h.len
    rw [h.nil hp, Nat.zero_mul] at this
    simp [List.eq_nil_of_length_eq_zero this]
  | some a =>
    obtain ⟨h1, h2⟩ := h.blk a hp
    rcases h2 with h2 | h2 <;> simp only [Heap.row, h2, h1, cut_all h.len.symm]
theorem Grown.str {H : Heap} {s : Sl} {t : Bytes} (h : Grown H 1 s (cellsOf t)) : strOf H s = some t := by
  unfold strOf
  rw [h.row]; exact bytes_of_cells t

/-- The heap behind a growth: the old block is gone if its end is not known. -/
def grownH (H : Heap) (s : Sl) (cs : List C) : Heap :=
  match s.p with
  | none => H ++ [.cells cs .loose]
  | some a => match H[a.1]? with
    | some (.cells _ .loose) => H.set a.1 .dead ++ [.cells cs .loose]
    | _ => H ++ [.cells cs .loose]
theorem grownH_length (H : Heap) (s : Sl) (cs : List C) : (grownH H s cs).length = H.length + 1 := by
  unfold grownH
  split
  · simp
  · split <;> simp
theorem grownH_get {H : Heap} {s : Sl} {cs : List C} {j : Nat} (hj : j < H.length) (ha : ∀ a, s.p = some a → a.1 ≠ j) : (grownH H s cs)[j]? = H[j]? := by
  unfold grownH
  split
  · rw [app_lt hj]
  · rename_i a hp
    split
    · rw [app_lt (by simpa using hj), set_get' (ha a hp)]
    · rw [app_lt hj]
theorem grownH_last (H : Heap) (s : Sl) (cs : List C) : (grownH H s cs)[H.length]? = some (.cells cs .loose) := by
  unfold grownH
  split
  · exact app_last
  · split
    · rw [List.getElem?_append_right (by simp)]; simp
    · exact app_last

theorem Grown.app {H : Heap} {es bytes : Nat} {s : Sl} {cs : List C} (h : Grown H es s cs) (hes : 0 < es) {n : Nat} {new : List C} (hn : 0 < n) (hnew : new.length = n * es) (hb : (s.len + n) * bytes ≤ 35184372088832) (hb2 : s.len + n ≤ 35184372088832) :
    appS H es bytes s n new = some (⟨some (H.length, 0), s.len + n, s.len + n⟩, grownH H s (cs ++ new)) ∧ Grown (grownH H s (cs ++ new)) es ⟨some (H.length, 0), s.len + n, s.len + n⟩ (cs ++ new) := by
  constructor
  · unfold appS
    have h1 : decide (s.len + n ≤ s.cap) = false := decide_eq_false (by rw [h.cap]; omega)
    have h2 : decide ((s.len + n) * bytes ≤ maxRow ∧ s.len + n ≤ maxRow) = true := decide_eq_true (by unfold maxRow; omega)
    rw [h1, cond_f, h2, cond_t, h.row, bind_some]
    have hk : growKill H es s = some (match s.p with
        | none => H
        | some a => match H[a.1]? with
          | some (.cells _ .loose) => H.set a.1 .dead
          | _ => H) := by
      unfold growKill
      cases hp : s.p with
      | none => rfl
      | some a =>
        obtain ⟨g1, g2⟩ := h.blk a hp
        rcases g2 with g2 | g2
        · have : decide (a.2 + s.cap * es = cs.length) = true := decide_eq_true (by rw [g1, h.cap, h.len]; omega)
          simp only [g2, this, cond_t]
        · simp only [g2]
    rw [hk, bind_some]
    unfold grownH
    cases hp : s.p with
    | none => rfl
    | some a =>
      obtain ⟨g1, g2⟩ := h.blk a hp
      rcases g2 with g2 | g2 <;> simp only [g2]
  · refine ⟨rfl, by rw [List.length_append, h.len, hnew, Nat.add_mul], fun hh => by (cases hh), ?_⟩
    rintro a ha
    cases ha
    exact ⟨rfl, .inl (grownH_last H s _)⟩

/-- A block behind does not matter. -/
theorem Grown.mono {H H' : Heap} {es : Nat} {s : Sl} {cs : List C} (h : Grown H es s cs) (hh : ∀ a, s.p = some a → H'[a.1]? = H[a.1]?) : Grown H' es s cs :=
  ⟨h.cap, h.len, h.nil, fun a ha => by rw [hh a ha]; exact h.blk a ha⟩
theorem Grown.lt {H : Heap} {es : Nat} {s : Sl} {cs : List C} (h : Grown H es s cs) {a : Nat × Nat} (ha : s.p = some a) : a.1 < H.length := by
  obtain ⟨_, h2⟩ := h.blk a ha
  rcases h2 with h2 | h2 <;> exact (List.getElem?_eq_some_iff.1 h2).1
theorem Grown.push {H : Heap} {es : Nat} {s : Sl} {cs : List C} (h : Grown H es s cs) (x : Blk) : Grown (H ++ [x]) es s cs :=
  h.mono fun _ ha => app_lt (h.lt ha)

/-- A row that was just written out. -/
theorem row_last {H : Heap} {cs : List C} {bk : BK} {es n cap : Nat} (h : n * es = cs.length) : slRow (H ++ [.cells cs bk]) es ⟨some (H.length, 0), n, cap⟩ = some cs := by
  unfold slRow
  simp only [Heap.row, app_last, cut_all h]
end Ev

/- Rows of structs in a block; what a step keeps of the heap. -/
namespace Ev
open Go (IntKind)

/-- The cells of n things, one behind the other. -/
def arrC : Nat → (Nat → List C) → List C
  | 0, _ => []
  | n + 1, f => arrC n f ++ f n
theorem arrC_length {f : Nat → List C} {es : Nat} (hf : ∀ i, (f i).length = es) : ∀ n, (arrC n f).length = n * es
  | 0 => by simp [arrC]
  | n + 1 => by rw [arrC, List.length_append, arrC_length hf n, hf, Nat.succ_mul]
theorem lt_mul {n i j es : Nat} (hi : i < n) (hj : j < es) : i * es + j < n * es := by
  have : (i + 1) * es ≤ n * es := Nat.mul_le_mul_right _ hi
  rw [Nat.succ_mul] at this; omega
theorem arrC_get {f : Nat → List C} {es : Nat} (hf : ∀ i, (f i).length = es) {i j : Nat} (hj : j < es) : ∀ {n : Nat}, i < n → (arrC n f)[i * es + j]? = (f i)[j]?
  | 0, h => absurd h (Nat.not_lt_zero _)
  | n + 1, h => by
    rw [arrC]
    by_cases hi : i < n
    · rw [List.getElem?_append_left (by rw [arrC_length hf]; exact lt_mul hi hj), arrC_get hf hj hi]
    · have : i = n := by omega
      subst this
      rw [List.getElem?_append_right (by rw [arrC_length hf]; omega), arrC_length hf, Nat.add_sub_cancel_left]
theorem arrC_congr {f g : Nat → List C} : ∀ {n : Nat}, (∀ i, i < n → f i = g i) → arrC n f = arrC n g
  | 0, _ => rfl
  | n + 1, h => by rw [arrC, arrC, arrC_congr (fun i hi => h i (by omega)), h n (by omega)]
theorem arrC_set {f : Nat → List C} {es : Nat} (hf : ∀ i, (f i).length = es) {i j : Nat} (hj : j < es) (v : C) : ∀ {n : Nat}, i < n → (arrC n f).set (i * es + j) v = arrC n fun k => if k = i then (f i).set j v else f k
  | 0, h => absurd h (Nat.not_lt_zero _)
  | n + 1, h => by
    rw [arrC, arrC]
    by_cases hi : i < n
    · rw [List.set_append_left _ _ (by rw [arrC_length hf]; exact lt_mul hi hj), arrC_set hf hj v hi, if_neg (by omega)]
    · have : i = n := by omega
      subst this
      rw [List.set_append_right _ _ (by rw [arrC_length hf]; omega), arrC_length hf, Nat.add_sub_cancel_left, if_pos rfl]
      congr 1
      exact arrC_congr fun k hk => by rw [if_neg (by omega)]
/-- Rows out of a list. -/
theorem arrC_drop_take {f : Nat → List C} {es : Nat} (hf : ∀ i, (f i).length = es) {i m : Nat} (hm : m ≤ es) : ∀ {n : Nat}, i < n → ((arrC n f).drop (i * es)).take m = (f i).take m
  | n, h => by
    apply List.ext_getElem?
    intro j
    rw [List.getElem?_take, List.getElem?_take]
    by_cases hj : j < m
    · rw [if_pos hj, if_pos hj, List.getElem?_drop, arrC_get hf (by omega) h]
    · rw [if_neg hj, if_neg hj]

/-- What a step keeps: all but the blocks of F; blocks may be new. -/
structure Keep (F : Nat → Prop) (H H' : Heap) : Prop where
  len : H.length ≤ H'.length
  same : ∀ k, k < H.length → ¬ F k → H'[k]? = H[k]?
theorem Keep.refl (F : Nat → Prop) (H : Heap) : Keep F H H := ⟨Nat.le_refl _, fun _ _ _ => rfl⟩
theorem Keep.trans {F : Nat → Prop} {A B D : Heap} (h : Keep F A B) (k : Keep F B D) : Keep F A D :=
  ⟨Nat.le_trans h.len k.len, fun j hj hf => (k.same j (Nat.lt_of_lt_of_le hj h.len) hf).trans (h.same j hj hf)⟩
theorem Keep.mono {F G : Nat → Prop} {A B : Heap} (h : Keep F A B) (hg : ∀ k, F k → G k) : Keep G A B := ⟨h.len, fun k hk hf => h.same k hk fun x => hf (hg k x)⟩
/-- Blocks that are new do not count. -/
theorem Keep.new {F G : Nat → Prop} {A B : Heap} (h : Keep F A B) (hg : ∀ k, F k → k < A.length → G k) : Keep G A B := ⟨h.len, fun k hk hf => h.same k hk fun x => hf (hg k x hk)⟩
theorem Keep.push (F : Nat → Prop) (H : Heap) (x : Blk) : Keep F H (H ++ [x]) := ⟨by simp, fun _ hk _ => app_lt hk⟩
theorem Keep.set {F : Nat → Prop} (H : Heap) (b : Nat) (x : Blk) (hF : F b) : Keep F H (H.set b x) := ⟨by simp, fun k _ hf => set_get' (fun e => hf (e ▸ hF))⟩
theorem Keep.get {F : Nat → Prop} {A B : Heap} (h : Keep F A B) {k : Nat} {x : Blk} (hk : A[k]? = some x) (hf : ¬ F k) : B[k]? = some x := by
  rw [h.same k (List.getElem?_eq_some_iff.1 hk).1 hf]; exact hk
theorem get_lt {H : Heap} {k : Nat} {x : Blk} (h : H[k]? = some x) : k < H.length := (List.getElem?_eq_some_iff.1 h).1

theorem wr_last {H : Heap} {o : Nat} {cs : List C} {bk : BK} {new : List C} (hb : bk ≠ .ro) (ho : o + new.length ≤ cs.length) : wr (H ++ [.cells cs bk]) H.length o new = some (H ++ [.cells (setL cs o new) bk]) := by
  rw [wr_of app_last hb ho, set_last]

/-- The cells of a slice. -/
theorem slRow_some {H : Heap} {es : Nat} {s : Sl} {b o : Nat} {row : List C} (hp : s.p = some (b, o)) (h : slRow H es s = some row) : ∃ cs bk, H[b]? = some (.cells cs bk) ∧ o + s.len * es ≤ cs.length ∧ (cs.drop o).take (s.len * es) = row := by
  unfold slRow at h
  rw [hp] at h
  simp only [Heap.row] at h
  split at h
  · rename_i cs bk hb
    unfold cut at h
    by_cases hl : o + s.len * es ≤ cs.length
    · rw [decide_eq_true hl, cond_t] at h
      exact ⟨cs, bk, hb, hl, Option.some.inj h⟩
    · rw [decide_eq_false hl, cond_f] at h; cases h
  · cases h
theorem slRow_len {H : Heap} {es : Nat} {s : Sl} {row : List C} (h : slRow H es s = some row) (hn : s.p = none → s.len = 0) : row.length = s.len * es := by
  cases hp : s.p with
  | none =>
    unfold slRow at h
    rw [hp] at h
    cases h
    rw [hn hp]; simp
  | some a =>
    obtain ⟨cs, bk, _, h2, h3⟩ := slRow_some hp h
    rw [← h3, List.length_take, List.length_drop]; omega
/-- One cell of a slice's row. -/
theorem slRow_cell {H : Heap} {es : Nat} {s : Sl} {row : List C} (h : slRow H es s = some row) {i : Nat} (hi : i < s.len) (hn : s.p = none → s.len = 0) : ∃ b o, s.p = some (b, o) ∧ Sl.at es s (i : Int) = some (b, o + i * es) ∧ ∃ cs bk, H[b]? = some (.cells cs bk) ∧ o + s.len * es ≤ cs.length ∧ ∀ j, j < es → cs[o + i * es + j]? = row[i * es + j]? := by
  cases hp : s.p with
  | none => have := hn hp; omega
  | some a =>
    obtain ⟨cs, bk, h1, h2, h3⟩ := slRow_some hp h
    refine ⟨a.1, a.2, rfl, ?_, cs, bk, h1, h2, ?_⟩
    · cases s; simp only at hp; subst hp; rw [at_of (by omega) (by simpa using hi)]; simp
    · intro j hj
      have hlt : i * es + j < s.len * es := lt_mul hi hj
      rw [← h3, List.getElem?_take, if_pos hlt, List.getElem?_drop, Nat.add_assoc]
theorem slRow_keep {H H' : Heap} {es : Nat} {s : Sl} {row : List C} (h : slRow H es s = some row) (hk : ∀ b o, s.p = some (b, o) → H'[b]? = H[b]?) : slRow H' es s = some row := by
  cases hp : s.p with
  | none => unfold slRow at h ⊢; rw [hp] at h ⊢; exact h
  | some a =>
    have := hk a.1 a.2 hp
    unfold slRow at h ⊢
    rw [hp] at h ⊢
    simp only [Heap.row] at h ⊢
    rw [this]; exact h
end Ev

/- Rows of typed cells; lists of numbers in slices. -/
namespace Ev
open Go (IntKind)

theorem rowsC_get {cts : List CT} : ∀ {rows : List (Tup cts)} {i : Nat} {x : Tup cts} {j : Nat}, rows[i]? = some x → j < cts.length → (rowsOf cts rows)[i * cts.length + j]? = (Tup.mk cts x)[j]?
  | [], _, _, _, h, _ => by simp at h
  | y :: r, 0, x, j, h, hj => by
    simp at h
    subst h
    simp only [rowsOf, List.map_cons, List.flatten_cons, Nat.zero_mul, Nat.zero_add]
    rw [List.getElem?_append_left (by rw [Tup.mk_length]; exact hj)]
  | y :: r, i + 1, x, j, h, hj => by
    have ih := rowsC_get (rows := r) (i := i) (j := j) (by simpa using h) hj
    simp only [rowsOf, List.map_cons, List.flatten_cons] at ih ⊢
    rw [List.getElem?_append_right (by rw [Tup.mk_length, Nat.succ_mul]; omega), Tup.mk_length]
    rw [← ih]
    congr 1
    rw [Nat.succ_mul]; omega
theorem rowsC_length {cts : List CT} : ∀ (rows : List (Tup cts)), (rowsOf cts rows).length = rows.length * cts.length
  | [] => by simp [rowsOf]
  | x :: r => by
    have := rowsC_length r
    simp only [rowsOf, List.map_cons, List.flatten_cons, List.length_append, Tup.mk_length, List.length_cons] at this ⊢
    rw [this, Nat.succ_mul]; omega

def intC (l : List Int) : List C := l.map (C.int .i64)
end Ev

/- slices.Clone and slices.Contains on numbers and cuts. -/
namespace Ev
open Go (IntKind)

/-- A slice whose cells are known. -/
structure Row (H : Heap) (es : Nat) (s : Sl) (row : List C) : Prop where
  row : slRow H es s = some row
  nil : s.p = none → s.len = 0
theorem Row.len {H : Heap} {es : Nat} {s : Sl} {row : List C} (h : Row H es s row) : row.length = s.len * es := slRow_len h.row h.nil
theorem Row.keep {H H' : Heap} {es : Nat} {s : Sl} {row : List C} (h : Row H es s row) {F : Nat → Prop} (k : Keep F H H') (hF : ∀ b o, s.p = some (b, o) → ¬ F b) : Row H' es s row :=
  ⟨slRow_keep h.row fun b o hp => by
    obtain ⟨cs, bk, h1, _, _⟩ := slRow_some hp h.row
    rw [k.get h1 (hF b o hp), h1], h.nil⟩
theorem Row.lt {H : Heap} {es : Nat} {s : Sl} {row : List C} (h : Row H es s row) {b o : Nat} (hp : s.p = some (b, o)) : b < H.length := by
  obtain ⟨cs, bk, h1, _, _⟩ := slRow_some hp h.row
  exact get_lt h1
theorem Row.push {H : Heap} {es : Nat} {s : Sl} {row : List C} (h : Row H es s row) (x : Blk) : Row (H ++ [x]) es s row := h.keep (Keep.push (fun _ => False) H x) fun _ _ _ => id
theorem Row.ni (H : Heap) (es c : Nat) : Row H es ⟨none, 0, c⟩ [] := ⟨rfl, fun _ => rfl⟩
theorem Row.grown {H : Heap} {es : Nat} {s : Sl} {row : List C} (h : Grown H es s row) : Row H es s row := ⟨h.row, h.nil⟩

/-- One number of a slice. -/
theorem Row.int {H : Heap} {s : Sl} {l : List Int} (h : Row H 1 s (intC l)) {i : Nat} (hi : i < l.length) : ∃ b o, s.p = some (b, o) ∧ Sl.at 1 s (i : Int) = some (b, o + i) ∧ rdI .i64 H b (o + i) = some l[i] := by
  have hl := h.len
  simp [intC] at hl
  obtain ⟨b, o, hp, h1, cs, bk, h2, h3, h4⟩ := slRow_cell h.row (i := i) (by omega) h.nil
  refine ⟨b, o, hp, by simpa using h1, rdI_of h2 ?_⟩
  have := h4 0 (by decide)
  simp only [Nat.mul_one, Nat.add_zero] at this
  rw [this]
  simp [intC, hi]
theorem Row.int_len {H : Heap} {s : Sl} {l : List Int} (h : Row H 1 s (intC l)) : s.len = l.length := by
  have hl := h.len
  simp [intC] at hl; omega

theorem contains_eq {H : Heap} {s : Sl} {l : List Int} (h : Row H 1 s (intC l)) (hl : l.length < 4611686018427387904) (x : Int) : slices_Contains_int_int s x H = some ((decide (x ∈ l), ()), H) := by
  have hsl := h.int_len
  unfold slices_Contains_int_int slices_Index_int_int
  obtain ⟨y, H', h1, h2, h3⟩ := loopW_run (step := slices_Index_int_int.s1 s x) (fun t G => G = H ∧ ∃ i : Nat, i ≤ l.length ∧ t.1 = (i : Int) ∧ (x ∈ l ↔ x ∈ l.drop i)) (fun y G => G = H ∧ match y with | .inl _ => x ∉ l | .inr k => x ∈ l ∧ 0 ≤ k.1) (fun t _ => l.length - t.1.toNat)
    (by
      rintro ⟨j, u⟩ G ⟨rfl, i, hi, hj, hm⟩
      have hj : j = (i : Int) := hj
      subst hj
      unfold slices_Index_int_int.s1
      by_cases hlt : i < l.length
      · have hd : decide ((i : Int) < (s.len : Int)) = true := decide_eq_true (by omega)
        obtain ⟨b, o, _, g1, g2⟩ := h.int hlt
        simp only [hd, cond_t, g1, bind_some, g2]
        by_cases he : x = l[i]
        · simp only [decide_eq_true he, cond_t, Round]
          exact ⟨trivial, by rw [he]; exact List.getElem_mem hlt, by omega⟩
        · simp only [decide_eq_false he, cond_f, Round, wrap_succ (show i < 9223372036854775807 by omega)]
          refine ⟨⟨trivial, i + 1, hlt, rfl, ?_⟩, by simp; omega⟩
          rw [hm, List.drop_eq_getElem_cons hlt, List.mem_cons]
          exact ⟨fun hh => hh.resolve_left he, .inr⟩
      · have hd : decide ((i : Int) < (s.len : Int)) = false := decide_eq_false (by omega)
        simp only [hd, cond_f, Round]
        refine ⟨trivial, ?_⟩
        rw [hm, List.drop_eq_nil_of_le (by omega)]
        exact List.not_mem_nil) (0, ()) H ⟨rfl, 0, Nat.zero_le _, rfl, by simp⟩
  subst h2
  rw [h1, bind_some]
  cases y with
  | inl _ =>
    have h3 : x ∉ l := h3
    simp [h3]
  | inr k =>
    obtain ⟨g1, g2⟩ : x ∈ l ∧ 0 ≤ k.1 := h3
    simp [g1, g2]

/-- Clone: nothing, or a new row. -/
theorem clone_int {H : Heap} {s : Sl} {row : List C} (h : Row H 1 s row) (hl : s.len ≤ 1099511627776) : ∃ t H', slices_Clone_int_int s H = some ((t, ()), H') ∧ Row H' 1 t row ∧ Keep (fun _ => False) H H' ∧ t.len = s.len ∧ ∀ b o, t.p = some (b, o) → H.length ≤ b := by
  unfold slices_Clone_int_int
  cases hp : s.p with
  | none =>
    have hr := h.row
    unfold slRow at hr
    rw [hp] at hr
    cases hr
    exact ⟨⟨none, 0, 0⟩, H, by simp, Row.ni H 1 0, Keep.refl _ _, (h.nil hp).symm, fun _ _ hh => by cases hh⟩
  | some a =>
    have hr := (h.push (Blk.cells [] .exact)).row
    simp only [Option.isNone_some, cond_f, hr, bind_some]
    by_cases h0 : s.len = 0
    · refine ⟨⟨some (H.length, 0), 0, 0⟩, H ++ [.cells [] .exact], ?_, ?_, Keep.push _ _ _, h0.symm, fun b o hh => by cases hh; exact Nat.le_refl _⟩
      · simp [appS, h0]
      · have hl := h.len
        rw [h0, Nat.zero_mul] at hl
        rw [List.eq_nil_of_length_eq_zero hl]
        exact ⟨row_last (by rfl), fun hh => by cases hh⟩
    · have hg : Grown (H ++ [.cells [] .exact]) 1 ⟨some (H.length, 0), 0, 0⟩ [] := ⟨rfl, rfl, fun _ => rfl, fun a ha => by cases ha; exact ⟨rfl, .inr app_last⟩⟩
      obtain ⟨a1, a2⟩ := hg.app (bytes := 8) (by decide) (n := s.len) (new := row) (by omega) h.len (by simp; omega) (by simp; omega)
      refine ⟨_, _, by rw [a1]; rfl, Row.grown a2, ⟨by rw [grownH_length]; simp; omega, fun k hk _ => ?_⟩, by simp, fun b o hh => by cases hh; simp⟩
      rw [grownH_get (by simp; omega) (fun a ha => by cases ha; simp; omega), app_lt hk]
theorem clone_cut {H : Heap} {s : Sl} {row : List C} (h : Row H 3 s row) (hl : s.len ≤ 1099511627776) : ∃ t H', slices_Clone_api_Cut_api_Cut s H = some ((t, ()), H') ∧ Row H' 3 t row ∧ Keep (fun _ => False) H H' ∧ t.len = s.len ∧ ∀ b o, t.p = some (b, o) → H.length ≤ b := by
  unfold slices_Clone_api_Cut_api_Cut
  cases hp : s.p with
  | none =>
    have hr := h.row
    unfold slRow at hr
    rw [hp] at hr
    cases hr
    exact ⟨⟨none, 0, 0⟩, H, by simp, Row.ni H 3 0, Keep.refl _ _, (h.nil hp).symm, fun _ _ hh => by cases hh⟩
  | some a =>
    have hr := (h.push (Blk.cells [] .exact)).row
    simp only [Option.isNone_some, cond_f, hr, bind_some]
    by_cases h0 : s.len = 0
    · refine ⟨⟨some (H.length, 0), 0, 0⟩, H ++ [.cells [] .exact], ?_, ?_, Keep.push _ _ _, h0.symm, fun b o hh => by cases hh; exact Nat.le_refl _⟩
      · simp [appS, h0]
      · have hl := h.len
        rw [h0, Nat.zero_mul] at hl
        rw [List.eq_nil_of_length_eq_zero hl]
        exact ⟨row_last (by rfl), fun hh => by cases hh⟩
    · have hg : Grown (H ++ [.cells [] .exact]) 3 ⟨some (H.length, 0), 0, 0⟩ [] := ⟨rfl, rfl, fun _ => rfl, fun a ha => by cases ha; exact ⟨rfl, .inr app_last⟩⟩
      obtain ⟨a1, a2⟩ := hg.app (bytes := 24) (by decide) (n := s.len) (new := row) (by omega) h.len (by simp; omega) (by simp; omega)
      refine ⟨_, _, by rw [a1]; rfl, Row.grown a2, ⟨by rw [grownH_length]; simp; omega, fun k hk _ => ?_⟩, by simp, fun b o hh => by cases hh; simp⟩
      rw [grownH_get (by simp; omega) (fun a ha => by cases ha; simp; omega), app_lt hk]

/-! Slices that came in. -/
theorem rows_take (cts : List CT) (rows : List (Tup cts)) (n : Nat) : (rowsOf cts rows).take (n * cts.length) = rowsOf cts (rows.take n) := by
  induction rows generalizing n with
  | nil => simp [rowsOf]
  | cons x r ih =>
    cases n with
    | zero => simp [rowsOf]
    | succ n =>
      have := ih n
      simp only [rowsOf, List.map_cons, List.flatten_cons, List.take_succ_cons] at this ⊢
      rw [Nat.succ_mul, Nat.add_comm, List.take_append, List.take_of_length_le (by rw [Tup.mk_length]; omega), Tup.mk_length, Nat.add_sub_cancel_left, this]
theorem came_rows {cts : List CT} {B H : Heap} {s : Sl} (h : Came cts B s H) : ∃ rows : List (Tup cts), Row H cts.length s (rowsOf cts rows) ∧ s.len = rows.length ∧ (∀ x ∈ rows, ∀ c ∈ Tup.mk cts x, wfC c) ∧ ∀ b o, s.p = some (b, o) → b = B.length := by
  rcases h with ⟨rfl, rfl⟩ | ⟨len, rows, rfl, h1, h2, rfl, h3⟩
  · exact ⟨[], ⟨rfl, fun _ => rfl⟩, rfl, fun x hx => absurd hx List.not_mem_nil, fun b o hh => by cases hh⟩
  · refine ⟨rows.take len, ⟨?_, fun hh => by cases hh⟩, by simp; omega, fun x hx => h3 x (List.mem_of_mem_take hx), fun b o hh => by cases hh; rfl⟩
    unfold slRow
    simp only [Heap.row, app_last]
    rw [cut_of (by rw [rowsC_length]; have := Nat.mul_le_mul_right cts.length h1; omega), List.drop_zero, rows_take]
/-- One cell of a row of structs. -/
theorem Row.at {H : Heap} {cts : List CT} {s : Sl} {rows : List (Tup cts)} (h : Row H cts.length s (rowsOf cts rows)) {i : Nat} (hi : i < rows.length) (hpos : 0 < cts.length) : ∃ b o, s.p.isSome ∧ Sl.at cts.length s (i : Int) = some (b, o) ∧ (∃ o', s.p = some (b, o')) ∧ ∃ cs bk, H[b]? = some (.cells cs bk) ∧ o + cts.length ≤ cs.length ∧ (cs.drop o).take cts.length = Tup.mk cts rows[i] := by
  have hl := h.len
  rw [rowsC_length] at hl
  have hsl : s.len = rows.length := Nat.eq_of_mul_eq_mul_right hpos hl.symm
  obtain ⟨b, o, hp, h1, cs, bk, h2, h3, h4⟩ := slRow_cell h.row (i := i) (by omega) h.nil
  have hlt : (i + 1) * cts.length ≤ s.len * cts.length := Nat.mul_le_mul_right _ (by omega)
  rw [Nat.succ_mul] at hlt
  refine ⟨b, o + i * cts.length, by rw [hp]; rfl, h1, ⟨o, hp⟩, cs, bk, h2, by omega, ?_⟩
  apply List.ext_getElem?
  intro j
  rw [List.getElem?_take]
  by_cases hj : j < cts.length
  · rw [if_pos hj, List.getElem?_drop, h4 j hj]
    exact rowsC_get (List.getElem?_eq_getElem hi) hj
  · rw [if_neg hj, List.getElem?_eq_none (by rw [Tup.mk_length]; omega)]
theorem rows_int (rows : List (Tup [.int .i64])) : rowsOf [.int .i64] rows = intC (rows.map fun x => x.1) := by
  unfold rowsOf intC
  induction rows with
  | nil => rfl
  | cons x r ih => rw [List.map_cons, List.flatten_cons, ih]; rfl
theorem came_ints {B H : Heap} {s : Sl} (h : Came [.int .i64] B s H) : ∃ l : List Int, Row H 1 s (intC l) ∧ s.len = l.length ∧ (∀ x ∈ l, wfC (.int .i64 x)) ∧ ∀ b o, s.p = some (b, o) → b = B.length := by
  obtain ⟨rows, h1, h2, h3, h4⟩ := came_rows h
  rw [rows_int] at h1
  refine ⟨_, h1, h2.trans (List.length_map _).symm, ?_, h4⟩
  intro x hx
  obtain ⟨y, hy, rfl⟩ := List.mem_map.1 hx
  exact h3 y hy _ (by simp [Tup.mk, CT.mk])
end Ev

/- The chip of package nand: how it stands in the heap, and what each of its functions does to it. -/
namespace Ev
open Go (IntKind)

abbrev Cut := Int × Int × Int × Unit
def cutC (l : List Cut) : List C := rowsOf [.int .i64, .int .i64, .int .u8] l
def cut0 : Cut := (0, 0, 0, ())
def cutB (x : Cut) : Blk := .cells [.int .i64 x.1, .int .i64 x.2.1, .int .u8 x.2.2.1] .exact

/-- Where a chip stands, and how great it is. -/
structure NdA where
  c : Nat
  bb : Nat
  pb : Nat → Nat
  B : Nat
  P : Nat
  S : Nat
  cs : Sl
  fs : Sl
/-- What it has. -/
structure Nd where
  pages : Nat → Nat → Bytes
  worn : Nat → Int
  dead : Nat → Bool
  mark : Nat → Bool
  cuts : List Cut
  fails : List Int
  did : Int
  off : Bool

def NdA.cells (a : NdA) (s : Nd) : List C := [.int .i64 a.B, .int .i64 a.P, .int .i64 a.S, .sl 4 ⟨some (a.bb, 0), a.B, a.B⟩, .sl 3 a.cs, .sl 1 a.fs, .int .i64 s.did, .bool s.off]
def NdA.blk (a : NdA) (s : Nd) (i : Nat) : List C := [.sl 1 ⟨some (a.pb i, 0), a.P, a.P⟩, .int .i64 (s.worn i), .bool (s.dead i), .bool (s.mark i)]
def NdA.pg (s : Nd) (i : Nat) (p : Nat) : List C := [.str (s.pages i p)]
theorem blk_len (a : NdA) (s : Nd) : ∀ i, (a.blk s i).length = 4 := fun _ => rfl
theorem pg_len (s : Nd) (i : Nat) : ∀ p, (NdA.pg s i p).length = 1 := fun _ => rfl

/-- The blocks that its functions write. -/
def NdA.fp (a : NdA) (k : Nat) : Prop := k = a.c ∨ k = a.bb ∨ ∃ i, i < a.B ∧ k = a.pb i
/-- The blocks of which it is made. -/
def NdA.own (a : NdA) (k : Nat) : Prop := a.fp k ∨ (∃ o, a.cs.p = some (k, o)) ∨ ∃ o, a.fs.p = some (k, o)

structure NdAt (H : Heap) (a : NdA) (s : Nd) : Prop where
  cell : H[a.c]? = some (.cells (a.cells s) .exact)
  blks : H[a.bb]? = some (.cells (arrC a.B (a.blk s)) .exact)
  pgs : ∀ i, i < a.B → H[a.pb i]? = some (.cells (arrC a.P (NdA.pg s i)) .exact)
  cuts : Row H 3 a.cs (cutC s.cuts)
  fails : Row H 1 a.fs (intC s.fails)
  cb : a.c ≠ a.bb
  cp : ∀ i, i < a.B → a.c ≠ a.pb i
  bp : ∀ i, i < a.B → a.bb ≠ a.pb i
  pp : ∀ i j, i < a.B → j < a.B → a.pb i = a.pb j → i = j
  csn : ∀ k o, a.cs.p = some (k, o) → ¬ a.fp k
  fsn : ∀ k o, a.fs.p = some (k, o) → ¬ a.fp k
  sz : a.B ≤ 4294967296 ∧ a.P ≤ 4294967296 ∧ a.S ≤ 4294967296
  ln : s.cuts.length ≤ 1099511627776 ∧ s.fails.length ≤ 1099511627776

section
variable {H : Heap} {a : NdA} {s : Nd}

theorem NdAt.own_lt (h : NdAt H a s) {k : Nat} (hk : a.own k) : k < H.length := by
  rcases hk with (rfl | rfl | ⟨i, hi, rfl⟩) | ⟨o, ho⟩ | ⟨o, ho⟩
  · exact get_lt h.cell
  · exact get_lt h.blks
  · exact get_lt (h.pgs i hi)
  · exact h.cuts.lt ho
  · exact h.fails.lt ho
theorem NdAt.keep (h : NdAt H a s) {F : Nat → Prop} {H' : Heap} (k : Keep F H H') (hF : ∀ j, a.own j → ¬ F j) : NdAt H' a s where
  cell := k.get h.cell (hF _ (.inl (.inl rfl)))
  blks := k.get h.blks (hF _ (.inl (.inr (.inl rfl))))
  pgs := fun i hi => k.get (h.pgs i hi) (hF _ (.inl (.inr (.inr ⟨i, hi, rfl⟩))))
  cuts := h.cuts.keep k fun b o hp => hF _ (.inr (.inl ⟨o, hp⟩))
  fails := h.fails.keep k fun b o hp => hF _ (.inr (.inr ⟨o, hp⟩))
  cb := h.cb
  cp := h.cp
  bp := h.bp
  pp := h.pp
  csn := h.csn
  fsn := h.fsn
  sz := h.sz
  ln := h.ln
theorem NdAt.push (h : NdAt H a s) (x : Blk) : NdAt (H ++ [x]) a s := h.keep (Keep.push (fun _ => False) H x) fun _ _ => id

/-! Reads. -/
theorem NdAt.rB (h : NdAt H a s) : rdI .i64 H a.c 0 = some (a.B : Int) := rdI_of h.cell rfl
theorem NdAt.rP (h : NdAt H a s) : rdI .i64 H a.c 1 = some (a.P : Int) := rdI_of h.cell rfl
theorem NdAt.rS (h : NdAt H a s) : rdI .i64 H a.c 2 = some (a.S : Int) := rdI_of h.cell rfl
theorem NdAt.rbb (h : NdAt H a s) : rdSl 4 H a.c 3 = some ⟨some (a.bb, 0), a.B, a.B⟩ := rdSl_of h.cell rfl
theorem NdAt.rcs (h : NdAt H a s) : rdSl 3 H a.c 4 = some a.cs := rdSl_of h.cell rfl
theorem NdAt.rfs (h : NdAt H a s) : rdSl 1 H a.c 5 = some a.fs := rdSl_of h.cell rfl
theorem NdAt.rdid (h : NdAt H a s) : rdI .i64 H a.c 6 = some s.did := rdI_of h.cell rfl
theorem NdAt.roff (h : NdAt H a s) : rdB H a.c 7 = some s.off := rdB_of h.cell rfl
theorem NdAt.atb (i : Nat) (hi : i < a.B) : Sl.at 4 ⟨some (a.bb, 0), a.B, a.B⟩ (i : Int) = some (a.bb, i * 4) := by
  rw [at_of (by omega) (by omega), Int.toNat_natCast, Nat.zero_add]
theorem NdAt.atp (i p : Nat) (hp : p < a.P) : Sl.at 1 ⟨some (a.pb i, 0), a.P, a.P⟩ (p : Int) = some (a.pb i, p) := by
  rw [at_of (by omega) (by omega), Int.toNat_natCast, Nat.zero_add, Nat.mul_one]
theorem NdAt.bget (i j : Nat) (hi : i < a.B) (hj : j < 4) : (arrC a.B (a.blk s))[i * 4 + j]? = (a.blk s i)[j]? := arrC_get (blk_len a s) hj hi
theorem NdAt.rpb (h : NdAt H a s) {i : Nat} (hi : i < a.B) : rdSl 1 H a.bb (i * 4) = some ⟨some (a.pb i, 0), a.P, a.P⟩ := rdSl_of h.blks (by rw [show i * 4 = i * 4 + 0 from rfl, NdAt.bget i 0 hi (by decide)]; rfl)
theorem NdAt.rworn (h : NdAt H a s) {i : Nat} (hi : i < a.B) : rdI .i64 H a.bb (i * 4 + 1) = some (s.worn i) := rdI_of h.blks (by rw [NdAt.bget i 1 hi (by decide)]; rfl)
theorem NdAt.rdead (h : NdAt H a s) {i : Nat} (hi : i < a.B) : rdB H a.bb (i * 4 + 2) = some (s.dead i) := rdB_of h.blks (by rw [NdAt.bget i 2 hi (by decide)]; rfl)
theorem NdAt.rmark (h : NdAt H a s) {i : Nat} (hi : i < a.B) : rdB H a.bb (i * 4 + 3) = some (s.mark i) := rdB_of h.blks (by rw [NdAt.bget i 3 hi (by decide)]; rfl)
theorem NdAt.rblk (h : NdAt H a s) {i : Nat} (hi : i < a.B) : @Eq (Option (Sl × Int × Bool × Bool × Unit)) (rd H (.agg [.sl 1, .int .i64, .bool, .bool]) a.bb (i * 4)) (some (⟨some (a.pb i, 0), a.P, a.P⟩, s.worn i, s.dead i, s.mark i, ())) := by
  have hl := lt_mul (j := 3) hi (show 3 < 4 by decide)
  refine rd_agg_of (cs := arrC a.B (a.blk s)) h.blks (by rw [arrC_length (blk_len a s)]; simp; omega) ?_
  rw [show ([CT.sl 1, CT.int .i64, CT.bool, CT.bool] : List CT).length = 4 from rfl, arrC_drop_take (blk_len a s) (Nat.le_refl _) hi]
  simp [NdA.blk, Tup.un, CT.un]
  rfl
theorem NdAt.rpage (h : NdAt H a s) {i p : Nat} (hi : i < a.B) (hp : p < a.P) : rdS H (a.pb i) p = some (s.pages i p) := by
  refine rdS_of (h.pgs i hi) ?_
  have := arrC_get (pg_len s i) (j := 0) (by decide) hp
  simp only [Nat.mul_one, Nat.add_zero] at this
  rw [this]; rfl
theorem NdAt.rgeo (h : NdAt H a s) : @Eq (Option (Int × Int × Int × Unit)) (rd H (.agg [.int .i64, .int .i64, .int .i64]) a.c 0) (some (a.B, a.P, a.S, ())) := by
  refine rd_agg_of h.cell (by simp [NdA.cells]) ?_
  simp [NdA.cells, Tup.un, CT.un]
  rfl

/-! Writes. -/
theorem NdAt.wdid (h : NdAt H a s) (v : Int) : ∃ H', wr H a.c 6 [.int .i64 v] = some H' ∧ NdAt H' a { s with did := v } ∧ Keep a.fp H H' := by
  have hk : Keep (fun k => k = a.c) H (H.set a.c (.cells ((a.cells s).set 6 (.int .i64 v)) .exact)) := Keep.set _ _ _ rfl
  refine ⟨_, wr1_of h.cell (by decide) (by simp [NdA.cells]), ?_, hk.mono fun k e => .inl e⟩
  exact { cell := by rw [set_get (get_lt h.cell)]; rfl, blks := hk.get h.blks (fun e => h.cb e.symm), pgs := fun i hi => hk.get (h.pgs i hi) (fun e => h.cp i hi e.symm),
          cuts := h.cuts.keep hk fun b o hp e => h.csn b o hp (.inl e), fails := h.fails.keep hk fun b o hp e => h.fsn b o hp (.inl e), cb := h.cb, cp := h.cp, bp := h.bp, pp := h.pp, csn := h.csn, fsn := h.fsn, sz := h.sz, ln := h.ln }
theorem NdAt.woff (h : NdAt H a s) (v : Bool) : ∃ H', wr H a.c 7 [.bool v] = some H' ∧ NdAt H' a { s with off := v } ∧ Keep a.fp H H' := by
  have hk : Keep (fun k => k = a.c) H (H.set a.c (.cells ((a.cells s).set 7 (.bool v)) .exact)) := Keep.set _ _ _ rfl
  refine ⟨_, wr1_of h.cell (by decide) (by simp [NdA.cells]), ?_, hk.mono fun k e => .inl e⟩
  exact { cell := by rw [set_get (get_lt h.cell)]; rfl, blks := hk.get h.blks (fun e => h.cb e.symm), pgs := fun i hi => hk.get (h.pgs i hi) (fun e => h.cp i hi e.symm),
          cuts := h.cuts.keep hk fun b o hp e => h.csn b o hp (.inl e), fails := h.fails.keep hk fun b o hp e => h.fsn b o hp (.inl e), cb := h.cb, cp := h.cp, bp := h.bp, pp := h.pp, csn := h.csn, fsn := h.fsn, sz := h.sz, ln := h.ln }
/-- A write into the row of blocks. -/
theorem NdAt.wblk (h : NdAt H a s) {i j : Nat} (hi : i < a.B) (hj : j < 4) (v : C) (s' : Nd) (hc : a.cells s' = a.cells s) (hp : ∀ i, NdA.pg s' i = NdA.pg s i) (h1 : s'.cuts = s.cuts) (h2 : s'.fails = s.fails)
    (hb : ∀ k, k < a.B → a.blk s' k = if k = i then (a.blk s i).set j v else a.blk s k) : ∃ H', wr H a.bb (i * 4 + j) [v] = some H' ∧ NdAt H' a s' ∧ Keep a.fp H H' := by
  have hk : Keep (fun k => k = a.bb) H (H.set a.bb (.cells ((arrC a.B (a.blk s)).set (i * 4 + j) v) .exact)) := Keep.set _ _ _ rfl
  refine ⟨_, wr1_of h.blks (by decide) (by rw [arrC_length (blk_len a s)]; exact lt_mul hi hj), ?_, hk.mono fun k e => .inr (.inl e)⟩
  refine { cell := ?_, blks := ?_, pgs := fun i hi => ?_, cuts := ?_, fails := ?_, cb := h.cb, cp := h.cp, bp := h.bp, pp := h.pp, csn := h.csn, fsn := h.fsn, sz := h.sz, ln := by rw [h1, h2]; exact h.ln }
  · rw [hc]; exact hk.get h.cell h.cb
  · rw [set_get (get_lt h.blks), arrC_set (blk_len a s) hj v hi, arrC_congr hb]
  · rw [hp]; exact hk.get (h.pgs i hi) (fun e => h.bp i hi e.symm)
  · rw [h1]; exact h.cuts.keep hk fun b o hp e => h.csn b o hp (.inr (.inl e))
  · rw [h2]; exact h.fails.keep hk fun b o hp e => h.fsn b o hp (.inr (.inl e))

def upd {α : Type} (f : Nat → α) (i : Nat) (v : α) : Nat → α := fun k => if k = i then v else f k
def upd2 {α : Type} (f : Nat → Nat → α) (i p : Nat) (v : α) : Nat → Nat → α := fun k q => if k = i ∧ q = p then v else f k q

theorem NdAt.wworn (h : NdAt H a s) {i : Nat} (hi : i < a.B) (v : Int) : ∃ H', wr H a.bb (i * 4 + 1) [.int .i64 v] = some H' ∧ NdAt H' a { s with worn := upd s.worn i v } ∧ Keep a.fp H H' :=
  h.wblk hi (by decide) _ { s with worn := upd s.worn i v } rfl (fun _ => rfl) rfl rfl fun k _ => by
    by_cases e : k = i
    · subst e; simp [NdA.blk, upd]
    · simp [NdA.blk, upd, e]
theorem NdAt.wdead (h : NdAt H a s) {i : Nat} (hi : i < a.B) (v : Bool) : ∃ H', wr H a.bb (i * 4 + 2) [.bool v] = some H' ∧ NdAt H' a { s with dead := upd s.dead i v } ∧ Keep a.fp H H' :=
  h.wblk hi (by decide) _ { s with dead := upd s.dead i v } rfl (fun _ => rfl) rfl rfl fun k _ => by
    by_cases e : k = i
    · subst e; simp [NdA.blk, upd]
    · simp [NdA.blk, upd, e]
theorem NdAt.wmark (h : NdAt H a s) {i : Nat} (hi : i < a.B) (v : Bool) : ∃ H', wr H a.bb (i * 4 + 3) [.bool v] = some H' ∧ NdAt H' a { s with mark := upd s.mark i v } ∧ Keep a.fp H H' :=
  h.wblk hi (by decide) _ { s with mark := upd s.mark i v } rfl (fun _ => rfl) rfl rfl fun k _ => by
    by_cases e : k = i
    · subst e; simp [NdA.blk, upd]
    · simp [NdA.blk, upd, e]
theorem NdAt.wpage (h : NdAt H a s) {i p : Nat} (hi : i < a.B) (hp : p < a.P) (v : Bytes) : ∃ H', wr H (a.pb i) p [.str v] = some H' ∧ NdAt H' a { s with pages := upd2 s.pages i p v } ∧ Keep a.fp H H' := by
  have hk : Keep (fun k => k = a.pb i) H (H.set (a.pb i) (.cells ((arrC a.P (NdA.pg s i)).set p (.str v)) .exact)) := Keep.set _ _ _ rfl
  refine ⟨_, wr1_of (h.pgs i hi) (by decide) (by rw [arrC_length (pg_len s i)]; omega), ?_, hk.mono fun k e => .inr (.inr ⟨i, hi, e⟩)⟩
  refine { cell := hk.get h.cell (h.cp i hi), blks := hk.get h.blks (h.bp i hi), pgs := fun j hj => ?_, cuts := ?_, fails := ?_, cb := h.cb, cp := h.cp, bp := h.bp, pp := h.pp, csn := h.csn, fsn := h.fsn, sz := h.sz, ln := h.ln }
  · by_cases e : j = i
    · subst e
      rw [set_get (get_lt (h.pgs j hj))]
      have := arrC_set (pg_len s j) (j := 0) (by decide) (.str v) hp
      simp only [Nat.mul_one, Nat.add_zero] at this
      rw [this]
      congr 2
      refine arrC_congr fun k _ => ?_
      by_cases e2 : k = p
      · subst e2; simp [NdA.pg, upd2]
      · simp [NdA.pg, upd2, e2]
    · rw [hk.get (h.pgs j hj) (fun e2 => e (h.pp j i hj hi e2))]
      congr 2
      refine arrC_congr fun k _ => ?_
      simp [NdA.pg, upd2, e]
  · exact h.cuts.keep hk fun b o hp e => h.csn b o hp (.inr (.inr ⟨i, hi, e⟩))
  · exact h.fails.keep hk fun b o hp e => h.fsn b o hp (.inr (.inr ⟨i, hi, e⟩))
end
end Ev

/- What each function of the chip tells and does. -/
namespace Ev
open Go (IntKind)

def Nd.inE (a : NdA) (s : Nd) (b p : Int) : Int := if s.off = true then 51 else if b < 0 ∨ (a.B : Int) ≤ b ∨ p < 0 ∨ (a.P : Int) ≤ p then 50 else 0
def fullP (a : NdA) : Bytes := List.replicate (a.S + 32) 255
def tornB (x : Cut) (t : Bytes) : Bytes :=
  t.take (min x.2.1.toNat t.length) ++ List.replicate (t.length - min x.2.1.toNat t.length) (UInt8.ofNat x.2.2.1.toNat)
theorem tornB_length (x : Cut) (t : Bytes) : (tornB x t).length = t.length := by unfold tornB; simp; omega
def Nd.lay (a : NdA) (s : Nd) (b p : Nat) (t : Bytes) : Nd := { s with pages := upd2 s.pages b p (if t = fullP a then [] else t) }
/-- The cut of the next action. -/
def Nd.cutNow (s : Nd) : Option Cut := s.cuts.find? fun x => x.1 == s.did + 1
def Nd.acted (s : Nd) : Nd := { s with did := s.did + 1, off := s.off || s.cutNow.isSome }
def Nd.failNow (s : Nd) : Bool := decide (s.did + 1 ∈ s.fails)
def Nd.used (a : NdA) (s : Nd) (b p : Nat) : Bool := (List.range a.P).any fun q => decide (p ≤ q) && decide (s.pages b q ≠ [])
def Nd.program (a : NdA) (s : Nd) (b p : Nat) (t : Bytes) : Int × Nd :=
  match s.cutNow with
  | some x => (51, s.acted.lay a b p (tornB x t))
  | none => if s.dead b = true ∨ s.failNow = true then (53, { s.acted with dead := upd s.dead b true }.lay a b p (List.replicate t.length 0)) else (0, s.acted.lay a b p t)
def Nd.clear (s : Nd) (b n : Nat) : Nd := { s with pages := fun k q => if k = b ∧ q < n then [] else s.pages k q }
def Nd.erase (a : NdA) (s : Nd) (b : Nat) : Int × Nd :=
  let s1 := { s.acted with worn := upd s.worn b (s.worn b + 1) }
  match s.cutNow with
  | some x =>
    let s2 := s1.clear b (min x.2.1.toNat a.P)
    (51, if 0 ≤ x.2.1 ∧ x.2.1 < (a.P : Int) then s2.lay a b x.2.1.toNat (List.replicate (a.S + 32) (UInt8.ofNat x.2.2.1.toNat)) else s2)
  | none => if s.dead b = true ∨ s.failNow = true then (54, { s1 with dead := upd s.dead b true }) else (0, s1.clear b a.P)
def Nd.domark (s : Nd) (b : Nat) : Int × Nd :=
  match s.cutNow with
  | some x => (51, if 0 < x.2.1 then { s.acted with mark := upd s.mark b true } else s.acted)
  | none => (0, { s.acted with mark := upd s.mark b true })
def Nd.read (a : NdA) (s : Nd) (b p : Nat) : Bytes := if s.pages b p = [] then fullP a else s.pages b p

theorem sum0 {α β γ : Type} (f : α → γ) (g : β → γ) (x : α) : Sum.elim f g (.inl x) = f x := rfl
theorem sum1 {α β γ : Type} (f : α → γ) (g : β → γ) (x : β) : Sum.elim f g (.inr x) = g x := rfl

section
variable {H : Heap} {a : NdA} {s : Nd}

theorem in_nil (b p : Int) (H : Heap) : nand_Chip_in none b p H = some ((1, ()), H) := rfl
theorem nand_in (h : NdAt H a s) (b p : Int) : nand_Chip_in (some (a.c, 0)) b p H = some ((s.inE a b p, ()), H) := by
  unfold nand_Chip_in Nd.inE
  simp only [Option.isNone_some, cond_f, bind_some, Nat.zero_add, h.roff, h.rB, h.rP]
  cases s.off with
  | true => rfl
  | false =>
    by_cases h1 : b < 0
    · simp [h1]
    · by_cases h2 : (a.B : Int) ≤ b
      · simp [h1, h2]
      · by_cases h3 : p < 0
        · simp [h1, h2, h3]
        · by_cases h4 : (a.P : Int) ≤ p
          · simp [h1, h2, h3, h4]
          · simp [h1, h2, h3, h4]

theorem full_of {x0 : Ptr} {a3 : Nat × Nat} {v4 : Int} {s2 : Bytes} (hx : x0 = some a3) (e1 : strOf (H ++ [.cells [.int .u8 255] .exact]) ⟨some (H.length, 0), 1, 1⟩ = some s2) (e4 : rdI .i64 (H ++ [.cells [.int .u8 255] .exact]) a3.1 (a3.2 + 2) = some v4) {f : Bytes} (e3 : strings_Repeat s2 (IntKind.wrap .i64 (v4 + 32)) = some (f, ())) :
    nand_Chip_full x0 H = some ((f, ()), H ++ [.cells [.int .u8 255] .exact]) := by
  unfold nand_Chip_full
  dsimp only
  rw [e1, bind_some, hx, bind_some, e4, bind_some, e3, bind_some]
theorem full_rep {n : Nat} (hs : n ≤ 4294967296) : strings_Repeat [255] (IntKind.wrap .i64 ((n : Int) + 32)) = some (List.replicate (n + 32) 255, ()) := by
  have e2 : IntKind.wrap .i64 ((n : Int) + 32) = ((n + 32 : Nat) : Int) := by rw [wrap_i64 (by omega) (by omega)]; omega
  rw [e2, rep_of (by rw [List.length_singleton]; omega) (by omega), flat1]
theorem nand_full (h : NdAt H a s) : nand_Chip_full (some (a.c, 0)) H = some ((fullP a, ()), H ++ [.cells [.int .u8 255] .exact]) :=
  full_of rfl (strOf_of app_last (by decide) rfl) (by rw [Nat.zero_add]; exact (h.push _).rS) (full_rep h.sz.2.2)

theorem torn_eq (x : Cut) (t : Bytes) (hx : 0 ≤ x.2.2.1 ∧ x.2.2.1 < 256) (ht : t.length ≤ 35184372088832) : nand_torn x t = some (tornB x t, ()) := by
  obtain ⟨at', keep, fill, u⟩ := x
  simp only at hx
  unfold nand_torn nand_torn.on
  have r1 : rdI .i64 [Blk.cells [.int .i64 at', .int .i64 keep, .int .u8 fill] .exact] 0 1 = some keep := rfl
  have r2 : rdI .u8 [Blk.cells [.int .i64 at', .int .i64 keep, .int .u8 fill] .exact] 0 2 = some fill := rfl
  have hm : (if (t.length : Int) < (if 0 > keep then 0 else keep) then (t.length : Int) else (if 0 > keep then 0 else keep)) = ((min keep.toNat t.length : Nat) : Int) := by
    by_cases h0 : 0 > keep
    · rw [if_pos h0, if_neg (by omega)]; omega
    · rw [if_neg h0]
      by_cases h1 : (t.length : Int) < keep
      · rw [if_pos h1]; omega
      · rw [if_neg h1]; omega
  have hs : ∀ B : Blk, strOf [B, Blk.cells [.int .u8 fill] .exact] ⟨some (1, 0), 1, 1⟩ = some [UInt8.ofNat fill.toNat] := fun _ => rfl
  have hsub : subS t 0 ((min keep.toNat t.length : Nat) : Int) = some (t.take (min keep.toNat t.length)) := by
    rw [show (0 : Int) = ((0 : Nat) : Int) from rfl, sub_of (Nat.zero_le _) (by omega)]; rfl
  have hw : IntKind.wrap .i64 ((t.length : Int) - ((min keep.toNat t.length : Nat) : Int)) = ((t.length - min keep.toNat t.length : Nat) : Int) := by
    rw [wrap_i64 (by omega) (by omega)]; omega
  simp only [List.nil_append, List.length_nil, r1, bind_some, hm, hsub, r2, List.cons_append, List.length_cons, Nat.zero_add, hs, hw]
  rw [rep_of (by simp; omega) (by omega), flat1, bind_some, cat_of (by simp; omega), bind_some]; rfl

theorem nand_lay (h : NdAt H a s) {b p : Nat} (hb : b < a.B) (hp : p < a.P) (t : Bytes) : ∃ H', nand_Chip_lay (some (a.c, 0)) (b : Int) (p : Int) t H = some ((), H') ∧ NdAt H' a (s.lay a b p t) ∧ Keep a.fp H H' := by
  unfold nand_Chip_lay
  have h1 := h.push (.cells [.int .u8 255] .exact)
  obtain ⟨H', w1, w2, w3⟩ := h1.wpage hb hp (if t = fullP a then [] else t)
  refine ⟨H', ?_, w2, (Keep.push _ _ _).trans w3⟩
  simp only [nand_full h, bind_some]
  by_cases ht : t = fullP a
  · rw [if_pos ht] at w1
    simp only [ht, decide_true, cond_t, bind_some, Nat.zero_add, h1.rbb, NdAt.atb b hb, h1.rpb hb, NdAt.atp b p hp, w1]
  · rw [if_neg ht] at w1
    simp only [decide_eq_false ht, cond_f, bind_some, Nat.zero_add, h1.rbb, NdAt.atb b hb, h1.rpb hb, NdAt.atp b p hp, w1]

theorem nand_fail (h : NdAt H a s) : nand_Chip_fail (some (a.c, 0)) H = some ((decide (s.did ∈ s.fails), ()), H) := by
  unfold nand_Chip_fail
  have := h.ln
  simp only [bind_some, Nat.zero_add, h.rfs, h.rdid, contains_eq h.fails (by omega)]

theorem cutC_length (l : List Cut) : (cutC l).length = l.length * 3 := rowsC_length (cts := [.int .i64, .int .i64, .int .u8]) l
theorem NdAt.cs_len (h : NdAt H a s) : a.cs.len = s.cuts.length := by
  have hl := h.cuts.len
  rw [cutC_length] at hl
  omega
/-- One cut of the list. -/
theorem NdAt.cut_at (h : NdAt H a s) {i : Nat} (hi : i < s.cuts.length) : ∃ b o, Sl.at 3 a.cs (i : Int) = some (b, o) ∧ @Eq (Option Cut) (rd H (.agg [.int .i64, .int .i64, .int .u8]) b o) (some s.cuts[i]) := by
  have hl2 := h.cs_len
  obtain ⟨b, o, hp, h1, cs, bk, h2, h3, h4⟩ := slRow_cell h.cuts.row (i := i) (by omega) h.cuts.nil
  refine ⟨b, o + i * 3, h1, ?_⟩
  have hlt := lt_mul (i := i) (j := 2) (n := a.cs.len) (es := 3) (by omega) (by decide)
  refine rd_agg_of h2 (by simp; omega) ?_
  have he : (cs.drop (o + i * 3)).take 3 = Tup.mk [.int .i64, .int .i64, .int .u8] s.cuts[i] := by
    apply List.ext_getElem?
    intro j
    rw [List.getElem?_take]
    by_cases hj : j < 3
    · rw [if_pos hj, List.getElem?_drop, h4 j hj]
      exact rowsC_get (cts := [.int .i64, .int .i64, .int .u8]) (rows := s.cuts) (i := i) (List.getElem?_eq_getElem hi) hj
    · rw [if_neg hj, List.getElem?_eq_none (by simp [Tup.mk]; omega)]
  rw [show ([CT.int IntKind.i64, CT.int IntKind.i64, CT.int IntKind.u8] : List CT).length = 3 from rfl, he]
  simp [Tup.mk, Tup.un, CT.mk, CT.un]
  rfl
theorem wr_cut {H : Heap} (x : Cut) : wr (H ++ [.cells [.int .i64 0, .int .i64 0, .int .u8 0] .exact]) H.length 0 [.int .i64 x.1, .int .i64 x.2.1, .int .u8 x.2.2.1] = some (H ++ [cutB x]) := by
  rw [wr_last (by decide) (by simp)]; rfl
theorem rd_cut {H : Heap} {k : Nat} {x : Cut} (h : H[k]? = some (cutB x)) : @Eq (Option Cut) (rd H (.agg [.int .i64, .int .i64, .int .u8]) k 0) (some x) := by
  refine rd_agg_of h (by simp) ?_
  simp [Tup.un, CT.un]
  rfl
theorem wr_cut_at {H : Heap} {k : Nat} {y : Cut} (h : H[k]? = some (cutB y)) (x : Cut) : wr H k 0 [.int .i64 x.1, .int .i64 x.2.1, .int .u8 x.2.2.1] = some (H.set k (cutB x)) := by
  rw [wr_of h (by decide) (by simp)]; rfl

theorem nand_act (h : NdAt H a s) (hd : 0 ≤ s.did ∧ s.did < 4611686018427387904) : ∃ H', nand_Chip_act (some (a.c, 0)) H = some (((s.cutNow.getD cut0), s.cutNow.isSome, ()), H') ∧ NdAt H' a s.acted ∧ Keep a.fp H H' := by
  unfold nand_Chip_act
  have hp := h.push (cutB cut0)
  obtain ⟨H5, w1, w2, w3⟩ := hp.wdid (s.did + 1)
  have ew : IntKind.wrap .i64 (s.did + 1) = s.did + 1 := wrap_i64 (by omega) (by omega)
  have hcl := h.cs_len
  have hln := h.ln
  have hce := hp.rdid
  have hlk : H5[H.length]? = some (cutB cut0) := w3.get app_last (by
    intro hf
    have := h.own_lt (k := H.length) (.inl hf)
    omega)
  have eB : H ++ [Blk.cells [.int .i64 0, .int .i64 0, .int .u8 0] .exact] = H ++ [cutB cut0] := rfl
  obtain ⟨y, G, l1, l2⟩ := loopW_run (step := nand_Chip_act.s1 (some (a.c, 0)) H a.cs) (fun t G => ∃ i : Nat, i ≤ s.cuts.length ∧ t.1 = (i : Int) ∧ NdAt G a { s with did := s.did + 1 } ∧ Keep (fun _ => False) H5 G ∧ ((s.cuts.drop i).find? fun x => x.1 == s.did + 1) = s.cutNow)
    (fun y G => match y with
      | .inl _ => NdAt G a { s with did := s.did + 1 } ∧ Keep (fun _ => False) H5 G ∧ s.cutNow = none
      | .inr z => z.1 = true ∧ ∃ x, s.cutNow = some x ∧ NdAt G a { s with did := s.did + 1, off := true } ∧ Keep (fun k => a.fp k ∨ k = H.length) H5 G ∧ G[H.length]? = some (cutB x))
    (fun t _ => s.cuts.length - t.1.toNat)
    (by
      rintro ⟨j, u⟩ G ⟨i, hi, hj, hG, hK, hF⟩
      have hj : j = (i : Int) := hj
      subst hj
      unfold nand_Chip_act.s1
      by_cases hlt : i < s.cuts.length
      · have hd1 : decide ((i : Int) < (a.cs.len : Int)) = true := decide_eq_true (by omega)
        obtain ⟨b, o, g1, g2⟩ := hG.cut_at (i := i) hlt
        have g2' : @Eq (Option Cut) (rd G (.agg [.int .i64, .int .i64, .int .u8]) b o) (some s.cuts[i]) := g2
        simp only [hd1, cond_t, g1, bind_some, g2']
        rw [wr_cut, bind_some]
        have hG2 := hG.push (cutB s.cuts[i])
        have r1 : rdI .i64 (G ++ [cutB s.cuts[i]]) G.length 0 = some s.cuts[i].1 := rdI_of app_last rfl
        have r2 : rdI .i64 (G ++ [cutB s.cuts[i]]) a.c 6 = some (s.did + 1) := hG2.rdid
        simp only [r1, bind_some, Nat.zero_add, r2]
        rw [List.drop_eq_getElem_cons hlt, List.find?_cons] at hF
        by_cases he : s.cuts[i].1 = s.did + 1
        · have hF1 : s.cutNow = some s.cuts[i] := by rw [← hF]; simp [he]
          obtain ⟨G3, v1, v2, v3⟩ := hG2.woff true
          have hx : G3[G.length]? = some (cutB s.cuts[i]) := v3.get app_last (by
            intro hf
            have := hG.own_lt (k := G.length) (.inl hf)
            omega)
          have hkG : (G ++ [cutB s.cuts[i]])[H.length]? = some (cutB cut0) := by
            rw [app_lt (Nat.lt_of_lt_of_le (get_lt hlk) hK.len)]
            exact hK.get hlk id
          have hz : G3[H.length]? = some (cutB cut0) := v3.get hkG (by
            intro hf
            have := h.own_lt (k := H.length) (.inl hf)
            omega)
          have hkset : Keep (fun k => k = H.length) G3 (G3.set H.length (cutB s.cuts[i])) := Keep.set _ _ _ rfl
          simp only [decide_eq_true he, cond_t, v1, bind_some, rd_cut hx]
          rw [wr_cut_at hz, bind_some]
          refine ⟨rfl, s.cuts[i], hF1, v2.keep hkset ?_, ?_, set_get (get_lt hz)⟩
          · intro k hk e
            subst e
            have := h.own_lt hk
            omega
          · exact (((hK.mono (fun _ => False.elim)).trans (Keep.push _ _ _)).trans (v3.mono fun k hk => .inl hk)).trans (hkset.mono fun k hk => .inr hk)
        · have hF1 : ((s.cuts.drop (i + 1)).find? fun x => x.1 == s.did + 1) = s.cutNow := by
            have : (s.cuts[i].1 == s.did + 1) = false := by simpa using he
            rw [this] at hF; exact hF
          simp only [decide_eq_false he, cond_f, Round, wrap_succ (show i < 9223372036854775807 by omega)]
          exact ⟨⟨i + 1, hlt, rfl, hG2, hK.trans (Keep.push _ _ _), hF1⟩, by simp; omega⟩
      · have hd1 : decide ((i : Int) < (a.cs.len : Int)) = false := decide_eq_false (by omega)
        simp only [hd1, cond_f, Round]
        rw [List.drop_eq_nil_of_le (by omega)] at hF
        exact ⟨hG, hK, hF.symm⟩) (0, ()) H5 ⟨0, Nat.zero_le _, rfl, w2, Keep.refl _ _, rfl⟩
  have hk5 : Keep a.fp H H5 := (Keep.push _ _ _).trans w3
  simp only [eB, bind_some, Nat.zero_add, hp.rdid, ew, w1, w2.rcs, l1]
  cases y with
  | inl _ =>
    obtain ⟨m1, m2, m3⟩ : NdAt G a { s with did := s.did + 1 } ∧ Keep (fun _ => False) H5 G ∧ s.cutNow = none := l2
    have hz : G[H.length]? = some (cutB cut0) := m2.get hlk id
    have hkset : Keep (fun k => k = H.length) G (G.set H.length (cutB cut0)) := Keep.set _ _ _ rfl
    have hw := wr_cut_at hz cut0
    have hw' : wr G H.length 0 [.int .i64 0, .int .i64 0, .int .u8 0] = some (G.set H.length (cutB cut0)) := hw
    simp only [sum0, hw', bind_some, rd_cut (set_get (get_lt hz)), m3, Option.isSome_none, Option.getD_none]
    refine ⟨_, rfl, ?_, ?_⟩
    · have e : s.acted = { s with did := s.did + 1 } := by unfold Nd.acted; rw [m3]; simp
      rw [e]
      refine m1.keep hkset ?_
      intro k hk e
      subst e
      have := h.own_lt hk
      omega
    · exact (((hk5.mono (G := fun k => a.fp k ∨ k = H.length) fun k => .inl).trans (m2.mono fun _ => False.elim)).trans (hkset.mono fun k hk => .inr hk)).new fun k hk hlt => hk.resolve_right (by omega)
  | inr z =>
    obtain ⟨e1, x, e2, m1, m2, m3⟩ : z.1 = true ∧ ∃ x, s.cutNow = some x ∧ NdAt G a { s with did := s.did + 1, off := true } ∧ Keep (fun k => a.fp k ∨ k = H.length) H5 G ∧ G[H.length]? = some (cutB x) := l2
    simp only [sum1, rd_cut m3, bind_some, e1, e2, Option.isSome_some, Option.getD_some]
    refine ⟨_, rfl, ?_, ?_⟩
    · have e : s.acted = { s with did := s.did + 1, off := true } := by unfold Nd.acted; rw [e2]; simp
      rw [e]; exact m1
    · exact ((hk5.mono (G := fun k => a.fp k ∨ k = H.length) fun k => .inl).trans m2).new fun k hk hlt => hk.resolve_right (by omega)
end
end Ev
