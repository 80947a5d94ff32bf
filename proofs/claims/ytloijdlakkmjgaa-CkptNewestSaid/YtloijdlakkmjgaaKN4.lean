/- SLaw14n Crc SCode SRec SPack -/
import Derived.Test.YtloijdlakkmjgaaKN3
import Derived.Test.YtloijdlakkmjgaaKN1
import Derived.Test.YtloijdlakkmjgaaGCode
import Derived.Test.YtloijdlakkmjgaaGRec
import Derived.Test.YtloijdlakkmjgaaGRef07
import Derived.Test.YtloijdlakkmjgaaKN2
import Derived.Test.YtloijdlakkmjgaaGGroup
/- Chapter 14: what was found is a list of things that are right. -/
namespace Ev
open Go (IntKind)

abbrev In5 := Int × Int × Int × Int × Int × Unit
abbrev in5 : List CT := [.int .i64, .int .i64, .int .i64, .int .i64, .int .i64]
/-- A thing that may be found. -/
structure FOk (x : F8) : Prop where
  ix : 0 ≤ F8.ix x
  of1 : 1 ≤ x.2.2.2.2.2.1
  of2 : x.2.2.2.2.2.1 ≤ 100000
  x0 : x.2.2.2.2.2.2.1 = 0
theorem in5_at {H : Heap} {s : Sl} {L : List In5} (h : Row H 5 s (rowsOf in5 L)) {i : Nat} (hi : i < L.length) : ∃ b o, Sl.at 5 s (i : Int) = some (b, o) ∧ (∀ Z, rdI .i64 (H ++ [Z]) b o = some L[i].1) ∧ rdI .i64 H b (o + 1) = some L[i].2.1 ∧ rdI .i64 H b (o + 2) = some L[i].2.2.1 ∧ rdI .i64 H b (o + 3) = some L[i].2.2.2.1 ∧ rdI .i64 H b (o + 4) = some L[i].2.2.2.2.1 := by
  obtain ⟨b, o, _, h1, h0, cs, bk, h2, h3, h4⟩ := Row.at (cts := in5) (rows := L) h hi (by decide)
  have h4' : (cs.drop o).take 5 = [.int .i64 L[i].1, .int .i64 L[i].2.1, .int .i64 L[i].2.2.1, .int .i64 L[i].2.2.2.1, .int .i64 L[i].2.2.2.2.1] := h4
  have hc : ∀ j, j < 5 → cs[o + j]? = [C.int .i64 L[i].1, .int .i64 L[i].2.1, .int .i64 L[i].2.2.1, .int .i64 L[i].2.2.2.1, .int .i64 L[i].2.2.2.2.1][j]? := fun j hj => by
    rw [← h4', List.getElem?_take, if_pos hj, List.getElem?_drop]
  exact ⟨b, o, h1, fun Z => rdI_of (by rw [app_lt (get_lt h2)]; exact h2) (hc 0 (by decide)), rdI_of h2 (hc 1 (by decide)), rdI_of h2 (hc 2 (by decide)), rdI_of h2 (hc 3 (by decide)), rdI_of h2 (hc 4 (by decide))⟩
theorem rowsF_snoc (L : List F8) (x : F8) : rowsF (L ++ [x]) = rowsF L ++ fC x := by
  unfold rowsF; simp
theorem founds_eq {H : Heap} {s : Sl} {rows : List In5} (hs : Row H 5 s (rowsOf in5 rows)) (hl : s.len = rows.length) :
    ∃ t G L, loopW (law14_CkptNewest.s1 s) (⟨some (H.length, 0), 0, 0⟩, 0, ()) (H ++ [.cells [] .exact]) = some ((t, ()), G) ∧ GrowN H G 8 t (rowsF L) ∧ L.length ≤ 40 ∧ ∀ x ∈ L, FOk x := by
  obtain ⟨u, G, l1, t, L, rfl, g, h1, h2⟩ := loop_rise (step := law14_CkptNewest.s1 s) (min rows.length 40) (fun i y G => ∃ t L, y = (t, (i : Int), ()) ∧ GrowN H G 8 t (rowsF L) ∧ t.len = i ∧ L.length = i ∧ ∀ x ∈ L, FOk x) (fun y G => ∃ t L, y = (t, ()) ∧ GrowN H G 8 t (rowsF L) ∧ L.length ≤ 40 ∧ ∀ x ∈ L, FOk x)
    (by
      rintro i _ G hi ⟨t, L, rfl, g, ht, hL, hx⟩
      refine .inl ?_
      obtain ⟨b, o, a1, r0, r1, r2, r3, r4⟩ := in5_at (hs.keep g.keep fun _ _ _ h => h) (i := i) (by omega)
      generalize rows[i] = z at r0 r1 r2 r3 r4
      have hlen : decide ((i : Int) < (s.len : Int)) = true := decide_eq_true (by omega)
      have h40 : decide ((i : Int) < 40) = true := decide_eq_true (by omega)
      have hsu := wrap_succ (show i < 9223372036854775807 by omega)
      obtain ⟨m0, m1⟩ := and_ones (k := .i64) (x := z.2.2.2.2.1) (m := 3) 2 rfl (by decide)
      obtain ⟨n0, n1⟩ := and_ones (k := .i64) (x := z.2.2.2.1) (m := 3) 2 rfl (by decide)
      have hof : IntKind.wrap .i64 (1 + bitsI .and .i64 z.2.2.2.2.1 3) = 1 + bitsI .and .i64 z.2.2.2.2.1 3 := wrap_i64 (by omega) (by omega)
      have hd : decide (1 + bitsI .and .i64 z.2.2.2.2.1 3 = 0) = false := decide_eq_false (by omega)
      generalize hO : 1 + bitsI .and .i64 z.2.2.2.2.1 3 = O at hof hd
      generalize hK : IntKind.wrap .i64 (1 + (Int.tmod (IntKind.wrap .i64 ((Int.tmod z.2.1 3) + 3)) 3)) = K
      generalize hS : IntKind.wrap .u64 (bitsI .and .i64 z.2.2.1 7) = S
      have hX0 : 0 ≤ Int.tmod (bitsI .and .i64 z.2.2.2.1 3) O := Int.tmod_nonneg _ n0
      generalize hX : Int.tmod (bitsI .and .i64 z.2.2.2.1 3) O = X at hX0
      let tg : T5 := (K, S, X, O, 0, ())
      let G1 : Heap := G ++ [tB tg]
      have w1 : wr (G ++ [Blk.cells [.int .i64 0, .int .u64 0, .int .i64 0, .int .i64 0, .int .i64 0] .exact]) G.length 0 [.int .i64 K, .int .u64 S, .int .i64 X, .int .i64 O, .int .i64 0] = some G1 := by
        rw [wr_last (by decide) (by simp)]; rfl
      have r0' : rdI .i64 G1 b o = some z.1 := r0 _
      have e1 : @Eq (Option T5) (rd G1 (.agg [.int .i64, .int .u64, .int .i64, .int .i64, .int .i64]) G.length 0) (some tg) := rd_agg_of (ts := tts) app_last (Nat.le_refl 5) rfl
      let u : UInt8 := UInt8.ofNat (IntKind.wrap .u8 (IntKind.wrap .i64 (97 + (i : Int)))).toNat
      let bb : Blk := .cells [.int .u8 (IntKind.wrap .u8 (IntKind.wrap .i64 (97 + (i : Int))))] .exact
      have e2 : strOf (G1 ++ [bb]) ⟨some (G1.length, 0), 1, 1⟩ = some [u] := by
        unfold strOf
        rw [row_last rfl]; rfl
      let x : F8 := ((i : Int), bitsI .and .i64 z.1 1, K, S, X, O, 0, [u], ())
      obtain ⟨t', G3, b1, b2, b3, b4, _⟩ := ((g.more (tB tg)).more bb).one (bytes := 72) (new := fC x) (by decide) rfl (by omega) (by omega)
      refine ⟨_, G3, ?_, t', L ++ [x], rfl, by rw [rowsF_snoc]; exact b3, by omega, by simp [hL], ?_⟩
      · unfold law14_CkptNewest.s1
        simp only [hlen, h40, cond_t, a1, bind_some, r1, r2, r3, r4, hO, hof, hd, cond_f, hK, hS, hX, w1, r0', e1]
        have e2' : strOf (G1 ++ [Blk.cells [.int .u8 (IntKind.wrap .u8 (IntKind.wrap .i64 (97 + (i : Int))))] .exact]) ⟨some (G1.length, 0), 1, 1⟩ = some [u] := e2
        simp only [e2', bind_some]
        have b1' : slRow ((G1 ++ [Blk.cells [.int .u8 (IntKind.wrap .u8 (IntKind.wrap .i64 (97 + (i : Int))))] .exact]) ++ [Blk.cells [.int .i64 (i : Int), .int .i64 (bitsI .and .i64 z.1 1), .int .i64 tg.1, .int .u64 tg.2.1, .int .i64 tg.2.2.1, .int .i64 tg.2.2.2.1, .int .i64 tg.2.2.2.2.1, .str [u]] .exact]) 8 ⟨some ((G1 ++ [Blk.cells [.int .u8 (IntKind.wrap .u8 (IntKind.wrap .i64 (97 + (i : Int))))] .exact]).length, 0), 1, 1⟩ = some (fC x) := b1
        have b2' : appS ((G1 ++ [Blk.cells [.int .u8 (IntKind.wrap .u8 (IntKind.wrap .i64 (97 + (i : Int))))] .exact]) ++ [Blk.cells [.int .i64 (i : Int), .int .i64 (bitsI .and .i64 z.1 1), .int .i64 tg.1, .int .u64 tg.2.1, .int .i64 tg.2.2.1, .int .i64 tg.2.2.2.1, .int .i64 tg.2.2.2.2.1, .str [u]] .exact]) 8 72 t 1 (fC x) = some (t', G3) := b2
        simp only [b1', bind_some, b2', hsu]
      · intro y hy
        rcases List.mem_append.1 hy with hy | hy
        · exact hx y hy
        · rw [List.mem_singleton] at hy
          subst hy
          exact ⟨hX0, by show 1 ≤ O; omega, by show O ≤ 100000; omega, rfl⟩)
    (by
      rintro _ G ⟨t, L, rfl, g, ht, hL, hx⟩
      refine ⟨_, G, ?_, t, L, rfl, g, by omega, hx⟩
      unfold law14_CkptNewest.s1
      by_cases h : rows.length ≤ 40
      · simp only [decide_eq_false (show ¬ ((min rows.length 40 : Nat) : Int) < (s.len : Int) by omega), cond_f]
      · simp only [decide_eq_true (show ((min rows.length 40 : Nat) : Int) < (s.len : Int) by omega), cond_t, decide_eq_false (show ¬ ((min rows.length 40 : Nat) : Int) < 40 by omega), cond_f])
    (y := (⟨some (H.length, 0), 0, 0⟩, ((0 : Nat) : Int), ())) (H := H ++ [.cells [] .exact]) ⟨_, [], rfl, GrowN.em (Keep.refl _ _) 8, rfl, rfl, fun x h => by cases h⟩
  exact ⟨t, G, L, l1, g, h1, h2⟩
end Ev

/- The check of bytes (CRC-32C) on natural numbers: bit by bit from the lowest bit on, the same turned round, and what a burst of four bytes does to it. -/
namespace Ev

/-- One bit. -/
def cbit (c : Nat) : Nat := if c % 2 = 1 then (c / 2) ^^^ 0x82f63b78 else c / 2
def cbits : Nat → Nat → Nat
  | 0, c => c
  | n + 1, c => cbits n (cbit c)
def cbyte (c : Nat) (b : Nat) : Nat := cbits 8 (c ^^^ b)
def crun (c : Nat) (l : List Nat) : Nat := l.foldl cbyte c

theorem xor_lt32 {a b : Nat} (ha : a < 4294967296) (hb : b < 4294967296) : a ^^^ b < 4294967296 := Nat.xor_lt_two_pow (n := 32) ha hb
theorem cbit_lt {c : Nat} (h : c < 4294967296) : cbit c < 4294967296 := by
  unfold cbit
  split
  · exact xor_lt32 (by omega) (by decide)
  · omega
theorem cbits_lt : ∀ {n c : Nat}, c < 4294967296 → cbits n c < 4294967296
  | 0, _, h => h
  | n + 1, c, h => cbits_lt (n := n) (cbit_lt h)
theorem cbyte_lt {c b : Nat} (h : c < 4294967296) (hb : b < 4294967296) : cbyte c b < 4294967296 := cbits_lt (xor_lt32 h hb)
theorem crun_lt : ∀ {l : List Nat} {c : Nat}, c < 4294967296 → (∀ b ∈ l, b < 256) → crun c l < 4294967296
  | [], _, h, _ => h
  | b :: l, c, h, hl => by
    show crun (cbyte c b) l < _
    exact crun_lt (cbyte_lt h (Nat.lt_trans (hl b (by simp)) (by decide))) (fun x hx => hl x (by simp [hx]))

/-! Linear. -/
theorem div2_xor (a b : Nat) : (a ^^^ b) / 2 = a / 2 ^^^ b / 2 := by
  have h := Nat.shiftRight_xor_distrib (a := a) (b := b) (i := 1)
  simpa [Nat.shiftRight_eq_div_pow] using h
theorem mod2_xor (a b : Nat) : (a ^^^ b) % 2 = (a % 2 + b % 2) % 2 := by
  have h := Nat.testBit_xor a b 0
  simp only [Nat.testBit_zero] at h
  have ha := Nat.mod_two_eq_zero_or_one a
  have hb := Nat.mod_two_eq_zero_or_one b
  have hc := Nat.mod_two_eq_zero_or_one (a ^^^ b)
  rcases ha with ha | ha <;> rcases hb with hb | hb <;> rcases hc with hc | hc <;> simp [ha, hb, hc] at h ⊢
theorem cbit_xor (a b : Nat) : cbit (a ^^^ b) = cbit a ^^^ cbit b := by
  unfold cbit
  rw [mod2_xor, div2_xor]
  rcases Nat.mod_two_eq_zero_or_one a with ha | ha <;> rcases Nat.mod_two_eq_zero_or_one b with hb | hb <;> simp only [ha, hb]
  · rfl
  · simp [Nat.xor_assoc]
  · simp only [Nat.add_zero, Nat.one_mod, if_true, Nat.zero_ne_one, if_false]
    rw [Nat.xor_assoc, Nat.xor_comm (b / 2), ← Nat.xor_assoc]
  · simp only [Nat.reduceAdd, Nat.reduceMod, Nat.zero_ne_one, if_false, if_true]
    rw [Nat.xor_comm (b / 2) _, ← Nat.xor_assoc, Nat.xor_assoc (a / 2), Nat.xor_self, Nat.xor_zero]
theorem cbits_xor : ∀ (n a b : Nat), cbits n (a ^^^ b) = cbits n a ^^^ cbits n b
  | 0, _, _ => rfl
  | n + 1, a, b => by show cbits n (cbit (a ^^^ b)) = _; rw [cbit_xor, cbits_xor n]; rfl
theorem cbit_zero {c : Nat} (h : c < 4294967296) (hz : cbit c = 0) : c = 0 := by
  unfold cbit at hz
  split at hz
  · rename_i h1
    exfalso
    have : (c / 2 ^^^ 0x82f63b78).testBit 31 = true := by
      rw [Nat.testBit_xor]
      have e : (c / 2).testBit 31 = false := Nat.testBit_lt_two_pow (by omega)
      rw [e]; decide
    rw [hz] at this
    simp at this
  · omega
theorem cbits_zero : ∀ {n c : Nat}, c < 4294967296 → cbits n c = 0 → c = 0
  | 0, _, _, h => h
  | n + 1, c, h, hz => cbit_zero h (cbits_zero (n := n) (cbit_lt h) hz)
theorem xor_eq_zero {a b : Nat} : a ^^^ b = 0 ↔ a = b := by
  constructor
  · intro h
    have : a ^^^ b ^^^ b = 0 ^^^ b := by rw [h]
    rw [Nat.xor_assoc, Nat.xor_self, Nat.xor_zero, Nat.zero_xor] at this
    exact this
  · rintro rfl; exact Nat.xor_self _
theorem cbits_inj {n a b : Nat} (ha : a < 4294967296) (hb : b < 4294967296) (h : cbits n a = cbits n b) : a = b := by
  have := cbits_xor n a b
  rw [h, Nat.xor_self] at this
  exact xor_eq_zero.1 (cbits_zero (xor_lt32 ha hb) this)
theorem cbits_shift : ∀ (n e : Nat), cbits n (e * 2 ^ n) = e
  | 0, e => by simp [cbits]
  | n + 1, e => by
    show cbits n (cbit (e * 2 ^ (n + 1))) = e
    have h : cbit (e * 2 ^ (n + 1)) = e * 2 ^ n := by
      unfold cbit
      have : e * 2 ^ (n + 1) = e * 2 ^ n * 2 := by rw [Nat.pow_succ, Nat.mul_assoc]
      rw [this, if_neg (by omega)]; omega
    rw [h, cbits_shift n e]

/-! A burst. -/
theorem cbyte_xor (c d b e : Nat) : cbyte (c ^^^ d) (b ^^^ e) = cbyte c b ^^^ cbyte d e := by
  unfold cbyte
  rw [← cbits_xor]
  congr 1
  rw [Nat.xor_assoc, Nat.xor_assoc, ← Nat.xor_assoc d b e, Nat.xor_comm d b, Nat.xor_assoc b d e]
theorem cbyte_eq {d e : Nat} (hd : d < 4294967296) (he : e < 256) (h : cbyte d e < 16777216) : d = e ^^^ (cbyte d e * 256) := by
  have h1 : cbits 8 (cbyte d e * 256) = cbyte d e := cbits_shift 8 _
  have h2 : d ^^^ e = cbyte d e * 256 := cbits_inj (n := 8) (xor_lt32 hd (by omega)) (by omega) (by rw [h1]; rfl)
  rw [← h2, Nat.xor_comm d e, ← Nat.xor_assoc, Nat.xor_self, Nat.zero_xor]

/-- Difference of two runs over rows of one length. -/
def drun (d : Nat) (l : List Nat) : Nat := crun d l
theorem crun_xor : ∀ (l m : List Nat) (c d : Nat), l.length = m.length → crun c l ^^^ crun d m = crun (c ^^^ d) (List.zipWith (· ^^^ ·) l m)
  | [], [], _, _, _ => rfl
  | b :: l, e :: m, c, d, h => by
    show crun (cbyte c b) l ^^^ crun (cbyte d e) m = crun (cbyte (c ^^^ d) (b ^^^ e)) _
    rw [cbyte_xor]
    exact crun_xor l m _ _ (by simpa using h)
  | [], _ :: _, _, _, h => by simp at h
  | _ :: _, [], _, _, h => by simp at h
theorem crun_inj : ∀ {l : List Nat} {c d : Nat}, c < 4294967296 → d < 4294967296 → (∀ b ∈ l, b < 256) → crun c l = crun d l → c = d
  | [], _, _, _, _, _, h => h
  | b :: l, c, d, hc, hd, hl, h => by
    have hb : b < 256 := hl b (by simp)
    have h1 : cbyte c b = cbyte d b := crun_inj (l := l) (cbyte_lt hc (by omega)) (cbyte_lt hd (by omega)) (fun x hx => hl x (by simp [hx])) h
    have h2 := cbits_inj (n := 8) (xor_lt32 hc (by omega)) (xor_lt32 hd (by omega)) h1
    have : c ^^^ b ^^^ b = d ^^^ b ^^^ b := by rw [h2]
    simpa [Nat.xor_assoc] using this

/-- Up to four bytes, of which the first is not nothing, leave something. -/
theorem burst {e : Nat} (l : List Nat) (he : e < 256) (h0 : e ≠ 0) (hl : ∀ b ∈ l, b < 256) (hn : l.length ≤ 3) : crun 0 (e :: l) ≠ 0 := by
  intro hz
  -- from the end: the register ahead of k more bytes is below 256 ^ k
  have key : ∀ (l : List Nat) (d : Nat), l.length ≤ 3 → (∀ b ∈ l, b < 256) → d < 4294967296 → crun d l = 0 → d < 256 ^ l.length := by
    intro l
    induction l with
    | nil => intro d _ _ _ h; have h : d = 0 := h; subst h; decide
    | cons x l ih =>
      intro d hn hb hd h
      have hx : x < 256 := hb x (by simp)
      have h1 := ih (cbyte d x) (by simp at hn; omega) (fun y hy => hb y (by simp [hy])) (cbyte_lt hd (by omega)) h
      have hn' : l.length ≤ 2 := by simp at hn; omega
      have hp : 256 ^ l.length ≤ 65536 := by
        have : 256 ^ l.length ≤ 256 ^ 2 := Nat.pow_le_pow_right (by decide) hn'
        simpa using this
      have h2 := cbyte_eq hd hx (by omega)
      rw [h2, List.length_cons, Nat.pow_succ]
      have e1 : (256 : Nat) ^ l.length * 256 = 2 ^ (8 * l.length + 8) := by
        rw [show (256 : Nat) = 2 ^ 8 from rfl, ← Nat.pow_mul, ← Nat.pow_add]
      rw [e1]
      refine Nat.xor_lt_two_pow ?_ ?_
      · exact Nat.lt_of_lt_of_le hx (by rw [show (256 : Nat) = 2 ^ 8 from rfl]; exact Nat.pow_le_pow_right (by decide) (by omega))
      · rw [← e1]; exact Nat.mul_lt_mul_of_pos_right h1 (by decide)
  have h1 := key l (cbyte 0 e) hn hl (cbyte_lt (by decide) (by omega)) hz
  have hp : 256 ^ l.length ≤ 16777216 := by
    have : 256 ^ l.length ≤ 256 ^ 3 := Nat.pow_le_pow_right (by decide) hn
    simpa using this
  have h2 := cbyte_eq (d := 0) (by decide) he (by omega)
  have h3 : e = cbyte 0 e * 256 := (xor_eq_zero.1 h2.symm)
  omega

/-- The check's own four bytes. -/
theorem crun_le {c : Nat} (hc : c < 4294967296) (w : Nat) (hw : w < 4294967296) :
    crun c [w % 256, w / 256 % 256, w / 65536 % 256, w / 16777216 % 256] = cbits 32 (c ^^^ w) := by
  have add : ∀ (m n x : Nat), cbits (m + n) x = cbits n (cbits m x) := by
    intro m
    induction m with
    | zero => intro n x; rw [Nat.zero_add]; rfl
    | succ m ih => intro n x; rw [Nat.succ_add]; exact ih n (cbit x)
  have split : ∀ w, w = w % 256 ^^^ (w / 256 * 256) := by
    intro w
    apply Nat.eq_of_testBit_eq
    intro i
    rw [Nat.testBit_xor, show (256 : Nat) = 2 ^ 8 from rfl, Nat.testBit_mod_two_pow, Nat.testBit_mul_two_pow, Nat.testBit_div_two_pow]
    by_cases h : i < 8
    · simp [h, show ¬ 8 ≤ i by omega]
    · have : 8 ≤ i := by omega
      simp [h, this, show i - 8 + 8 = i by omega]
  have one : ∀ (c w : Nat), cbits 8 (c ^^^ w) = cbyte c (w % 256) ^^^ (w / 256) := by
    intro c w
    have e : c ^^^ w = (c ^^^ w % 256) ^^^ (w / 256 * 2 ^ 8) := by
      rw [Nat.xor_assoc, show w % 256 ^^^ w / 256 * 2 ^ 8 = w from (split w).symm]
    rw [e, cbits_xor, cbits_shift]; rfl
  rw [show (32 : Nat) = 8 + (8 + (8 + 8)) from rfl, add, one, add, one, add, one, one]
  have e1 : w / 256 / 256 = w / 65536 := by omega
  have e2 : w / 65536 / 256 = w / 16777216 := by omega
  have e3 : w / 16777216 / 256 = 0 := by omega
  rw [e1, e2, e3, Nat.xor_zero]; rfl
end Ev

/- Numbers in so many bytes: code.Fixed, code.value and the reader tell what the references tell. -/
namespace Ev
open Go (IntKind)

/-- A number in k bytes, the lowest first. -/
def leB : Nat → Nat → Bytes
  | 0, _ => []
  | k + 1, n => UInt8.ofNat (n % 256) :: leB k (n / 256)
theorem leB_length : ∀ (k n : Nat), (leB k n).length = k
  | 0, _ => rfl
  | k + 1, n => by simp [leB, leB_length k]
theorem leB_snoc : ∀ (k n : Nat), leB (k + 1) n = leB k n ++ [UInt8.ofNat (n / 256 ^ k % 256)]
  | 0, n => by simp [leB]
  | k + 1, n => by
    rw [leB, leB_snoc k, leB, Nat.div_div_eq_div_mul, List.cons_append, Nat.pow_succ, Nat.mul_comm 256]
/-- The number that bytes are. -/
def valB : Bytes → Nat
  | [] => 0
  | b :: s => b.toNat + 256 * valB s
theorem valB_lt : ∀ (s : Bytes), valB s < 256 ^ s.length
  | [] => by simp [valB]
  | b :: s => by
    have h1 := valB_lt s
    have h2 := b.toNat_lt
    rw [valB, List.length_cons, Nat.pow_succ]; omega
theorem valB_leB : ∀ (k n : Nat), n < 256 ^ k → valB (leB k n) = n
  | 0, n, h => by simp at h; simp [leB, valB, h]
  | k + 1, n, h => by
    rw [Nat.pow_succ] at h
    rw [leB, valB, valB_leB k _ (Nat.div_lt_of_lt_mul (by rw [Nat.mul_comm]; exact h))]
    have : (UInt8.ofNat (n % 256)).toNat = n % 256 := by simp
    rw [this]; omega
theorem leB_valB : ∀ (s : Bytes), leB s.length (valB s) = s
  | [] => rfl
  | b :: s => by
    have h2 := b.toNat_lt
    rw [List.length_cons, leB, valB]
    rw [show (b.toNat + 256 * valB s) % 256 = b.toNat by omega, show (b.toNat + 256 * valB s) / 256 = valB s by omega, leB_valB s]
    simp
theorem pow256 {k : Nat} (h : k ≤ 8) : 256 ^ k ≤ 18446744073709551616 := by
  have : 256 ^ k ≤ 256 ^ 8 := Nat.pow_le_pow_right (by decide) h
  simpa using this

theorem cells_snoc (s : Bytes) (b : UInt8) : cellsOf s ++ [.int .u8 (b.toNat : Int)] = cellsOf (s ++ [b]) := by simp [cellsOf]

theorem code_Fixed_eq (n k : Nat) (hn : n < 18446744073709551616) (hk : k ≤ 8) : code_Fixed (n : Int) (k : Int) = some (leB k n, ()) := by
  unfold code_Fixed code_Fixed.on
  obtain ⟨x, H', h1, h2⟩ := loopW_run (step := code_Fixed.s1 (n : Int) (k : Int)) (fun s H => ∃ i : Nat, i ≤ k ∧ s.2.1 = (i : Int) ∧ s.1.len = i ∧ Grown H 1 s.1 (cellsOf (leB i n))) (fun x H => Grown H 1 x.1 (cellsOf (leB k n))) (fun s _ => k - s.2.1.toNat)
    (by
      rintro ⟨s, j, u⟩ H ⟨i, hi, hj, hl, hg⟩
      have hj : j = (i : Int) := hj
      subst hj
      have hg : Grown H 1 s (cellsOf (leB i n)) := hg
      have hl : s.len = i := hl
      unfold code_Fixed.s1
      have hm : (if (8 : Int) < (if (0 : Int) > (k : Int) then 0 else (k : Int)) then 8 else (if (0 : Int) > (k : Int) then 0 else (k : Int))) = (k : Int) := by
        rw [if_neg (by omega), if_neg (by omega)]
      simp only [hm]
      by_cases hlt : i < k
      · have hd : decide ((i : Int) < (k : Int)) = true := decide_eq_true (by omega)
        have hw : IntKind.wrap .i64 (8 * (i : Int)) = ((8 * i : Nat) : Int) := by rw [wrap_i64 (by omega) (by omega)]; omega
        have hd2 : decide (((8 * i : Nat) : Int) < 0) = false := decide_eq_false (by omega)
        have hsh : IntKind.wrap .u8 (Int.fdiv (n : Int) (2 ^ (min (Int.toNat ((8 * i : Nat) : Int)) (IntKind.bits .u64)))) = (((UInt8.ofNat (n / 256 ^ i % 256)).toNat : Nat) : Int) := by
          rw [Int.toNat_natCast, show min (8 * i) (IntKind.bits .u64) = 8 * i by show min (8 * i) 64 = 8 * i; omega, shr_nat, wrap_u8, Nat.shiftRight_eq_div_pow, Nat.pow_mul]
          have : (UInt8.ofNat (n / 256 ^ i % 256)).toNat = n / 256 ^ i % 256 := by simp
          rw [this]; show ((n / 256 ^ i : Nat) : Int) % 256 = _; omega
        simp only [hd, cond_t, hw, hd2, cond_f, hsh]
        rw [row_last (by rfl), bind_some]
        obtain ⟨a1, a2⟩ := (hg.push (Blk.cells [.int .u8 (((UInt8.ofNat (n / 256 ^ i % 256)).toNat : Nat) : Int)] .exact)).app (bytes := 1) (by decide) (n := 1) (new := [.int .u8 (((UInt8.ofNat (n / 256 ^ i % 256)).toNat : Nat) : Int)]) (by decide) rfl (by omega) (by omega)
        rw [a1, bind_some]
        simp only [wrap_succ (show i < 9223372036854775807 by omega), Round]
        refine ⟨⟨i + 1, by omega, rfl, by simp [hl], ?_⟩, by simp; omega⟩
        rw [leB_snoc, ← cells_snoc]
        exact a2
      · have : i = k := by omega
        subst this
        have hd : decide ((i : Int) < (i : Int)) = false := decide_eq_false (by omega)
        simp only [hd, cond_f, Round]
        exact hg) (⟨none, 0, 0⟩, 0, ()) [] ⟨0, Nat.zero_le _, rfl, rfl, Grown.ni [] 1⟩
  rw [h1, bind_some]
  simp only [h2.str, bind_some]

theorem or_add {a b k : Nat} (h : b < 2 ^ k) : a * 2 ^ k ||| b = a * 2 ^ k + b := by
  rw [Nat.mul_comm]; exact (Nat.two_pow_add_eq_or_of_lt h a).symm

theorem value_step (s : Bytes) (i : Nat) (hi : i < s.length) : valB (s.drop i) = s[i].toNat + 256 * valB (s.drop (i + 1)) := by
  rw [List.drop_eq_getElem_cons hi]; rfl

theorem code_value_eq (s : Bytes) (hs : s.length ≤ 8) : code_value s = some (((valB s : Nat) : Int), ()) := by
  unfold code_value code_value.on
  have hl : loopW (code_value.s1 s) (0, (IntKind.wrap .i64 ((List.length (s : Bytes) : Int) - 1)), ()) [] = some ((((valB s : Nat) : Int), ()), []) := by
    refine loop_for' s.length (fun i => (((valB (s.drop (s.length - i)) : Nat) : Int), (s.length : Int) - 1 - (i : Int), ())) (fun _ => []) (by simp [valB, wrap_i64 (show -9223372036854775808 ≤ (s.length : Int) - 1 by omega) (by omega)]) rfl ?_ ?_
    · intro i hi
      unfold code_value.s1
      have hd : decide (0 ≤ (s.length : Int) - 1 - (i : Int)) = true := decide_eq_true (by omega)
      have hix : (s.length : Int) - 1 - (i : Int) = ((s.length - 1 - i : Nat) : Int) := by omega
      have hlt : s.length - 1 - i < s.length := by omega
      have hv := valB_lt (s.drop (s.length - i))
      have hb := s[s.length - 1 - i].toNat_lt
      have hdl : (s.drop (s.length - i)).length = i := by simp; omega
      rw [hdl] at hv
      have hp := pow256 (show i + 1 ≤ 8 by omega)
      rw [Nat.pow_succ] at hp
      have e1 : IntKind.wrap .u64 (((valB (s.drop (s.length - i)) : Nat) : Int) * 2 ^ (min (Int.toNat 8) (IntKind.bits .u64))) = ((valB (s.drop (s.length - i)) * 2 ^ 8 : Nat) : Int) := by
        rw [show min (Int.toNat 8) (IntKind.bits .u64) = 8 from rfl, wrap_u64]; omega
      have e2 : IntKind.wrap .u64 ((s[s.length - 1 - i].toNat : Nat) : Int) = ((s[s.length - 1 - i].toNat : Nat) : Int) := by rw [wrap_u64]; omega
      have e3 : IntKind.wrap .i64 (((s.length - 1 - i : Nat) : Int) - 1) = (s.length : Int) - 1 - ((i + 1 : Nat) : Int) := by rw [wrap_i64 (by omega) (by omega)]; omega
      simp only [hd, cond_t]
      rw [hix, idx_of hlt, bind_some, e1, e2, or64 (by omega) (by omega), or_add (by omega), e3]
      have e4 : s.length - 1 - i + 1 = s.length - i := by omega
      have hvs := value_step s (s.length - 1 - i) hlt
      rw [e4] at hvs
      rw [show s.length - (i + 1) = s.length - 1 - i by omega, hvs, Nat.add_comm, Nat.mul_comm]
    · unfold code_value.s1
      have hd : decide (0 ≤ (s.length : Int) - 1 - (s.length : Int)) = false := decide_eq_false (by omega)
      simp only [hd, cond_f, Nat.sub_self, List.drop_zero]
  rw [hl]; rfl

/-! The reader: a block with the bytes that are left, and the first error. -/
def rdr (s : Bytes) (e : Int) : Blk := .cells [.str s, .int .i64 e] .exact
theorem rdr_s {H : Heap} {b : Nat} {s : Bytes} {e : Int} (h : H[b]? = some (rdr s e)) : rdS H b 0 = some s := rdS_of h rfl
theorem rdr_e {H : Heap} {b : Nat} {s : Bytes} {e : Int} (h : H[b]? = some (rdr s e)) : rdI .i64 H b 1 = some e := rdI_of h rfl

theorem code_New_eq (s : Bytes) (H : Heap) : code_New s H = some ((some (H.length, 0), ()), H ++ [rdr s 0]) := rfl

theorem code_Bytes_eq {H : Heap} {b : Nat} {s : Bytes} (h : H[b]? = some (rdr s 0)) {n : Nat} (hn : n ≤ s.length) :
    code_Reader_Bytes (some (b, 0)) (n : Int) H = some ((s.take n, ()), H.set b (rdr (s.drop n) 0)) := by
  unfold code_Reader_Bytes code_Reader_Err
  have d1 : decide ((n : Int) < 0) = false := decide_eq_false (by omega)
  have d2 : decide ((s.length : Int) < (n : Int)) = false := decide_eq_false (by omega)
  have hw : wr H b 0 [.str ((s.take s.length).drop n)] = some (H.set b (rdr (s.drop n) 0)) := by
    rw [wr1_of h (by decide) (by simp)]; simp [rdr]
  simp only [Option.isNone_some, cond_f, bind_some, Nat.zero_add, rdr_e h, decide_true, Bool.not_true, d1, rdr_s h, d2]
  rw [show (0 : Int) = ((0 : Nat) : Int) from rfl, sub_of (Nat.zero_le _) hn, bind_some, sub_of hn (Nat.le_refl _), bind_some, hw]
  rfl
theorem code_RFixed_eq {H : Heap} {b : Nat} {s : Bytes} (h : H[b]? = some (rdr s 0)) {n : Nat} (hn : n ≤ s.length) (h8 : n ≤ 8) :
    code_Reader_Fixed (some (b, 0)) (n : Int) H = some ((((valB (s.take n) : Nat) : Int), ()), H.set b (rdr (s.drop n) 0)) := by
  unfold code_Reader_Fixed
  have hm : (if (8 : Int) < (if (0 : Int) > (n : Int) then 0 else (n : Int)) then 8 else (if (0 : Int) > (n : Int) then 0 else (n : Int))) = (n : Int) := by
    rw [if_neg (by omega), if_neg (by omega)]
  rw [hm, code_Bytes_eq h hn, bind_some, code_value_eq _ (by simp; omega), bind_some]
end Ev

/- Records: their bytes, and which may be; that there is an answer, and how long it is. -/
namespace Ev
open Go (IntKind)

abbrev RecT := Int × Int × Int × Int × Int × Int × Unit
def recB (x : RecT) : Blk := .cells [.int .i64 x.1, .int .i64 x.2.1, .int .i64 x.2.2.1, .int .i64 x.2.2.2.1, .int .i64 x.2.2.2.2.1, .int .i64 x.2.2.2.2.2.1] .exact
theorem grown_str {H : Heap} {s : Sl} {t : Bytes} (h : Grown H 1 s (cellsOf t)) : strOf H s = some t := by
  have hl : s.len = t.length := by have := h.len; rw [cells_len] at this; omega
  obtain ⟨p, len, cap⟩ := s
  cases p with
  | none =>
    have h0 : len = 0 := h.nil rfl
    have ht : t = [] := List.eq_nil_of_length_eq_zero (by have : len = t.length := hl; omega)
    subst ht
    rfl
  | some a =>
    obtain ⟨c, o⟩ := a
    obtain ⟨ho, hb⟩ := h.blk _ rfl
    have ho' : o = 0 := ho
    subst ho'
    have hl' : len = t.length := hl
    rcases hb with hb | hb
    · exact strOf_of hb (by rw [cells_len]; omega) (by rw [List.drop_zero, hl', List.take_of_length_le (by rw [cells_len]; omega)])
    · exact strOf_of hb (by rw [cells_len]; omega) (by rw [List.drop_zero, hl', List.take_of_length_le (by rw [cells_len]; omega)])
/-- The first byte of a slice that grew is written. -/
theorem grown_set {H : Heap} {c n : Nat} {t : Bytes} (h : Grown H 1 ⟨some (c, 0), n, n⟩ (cellsOf t)) (h0 : 0 < t.length) (u : UInt8) : ∃ H', wr H c 0 [.int .u8 ((u.toNat : Nat) : Int)] = some H' ∧ Grown H' 1 ⟨some (c, 0), n, n⟩ (cellsOf (t.set 0 u)) := by
  obtain ⟨_, hb⟩ := h.blk (c, 0) rfl
  have hset : (cellsOf t).set 0 (.int .u8 ((u.toNat : Nat) : Int)) = cellsOf (t.set 0 u) := by simp [cellsOf, List.map_set]
  have hlen := h.len
  rcases hb with hb | hb
  · have hb' : H[c]? = some (.cells (cellsOf t) .loose) := hb
    refine ⟨_, by rw [wr1_of hb' (by decide) (by rw [cells_len]; exact h0), hset], h.cap, ?_, h.nil, fun a ha => by cases ha; exact ⟨rfl, .inl (set_get (get_lt hb'))⟩⟩
    rw [cells_len, List.length_set]; rw [cells_len] at hlen; exact hlen
  · have hb' : H[c]? = some (.cells (cellsOf t) .exact) := hb
    refine ⟨_, by rw [wr1_of hb' (by decide) (by rw [cells_len]; exact h0), hset], h.cap, ?_, h.nil, fun a ha => by cases ha; exact ⟨rfl, .inr (set_get (get_lt hb'))⟩⟩
    rw [cells_len, List.length_set]; rw [cells_len] at hlen; exact hlen
theorem num_ok (n : Nat) (hn : n < 18446744073709551616) : ∃ t, code_Num (n : Int) = some (t, ()) ∧ t.length ≤ 9 := by
  unfold code_Num code_Num.on
  obtain ⟨y, G, l1, sl, t, rfl, gt, ht⟩ := loop_rise (step := code_Num.s1) 8 (fun i z G => ∃ q c m t, z = (((q : Nat) : Int), (⟨some (c, 0), m, m⟩ : Sl), ()) ∧ q < 256 ^ (8 - i) ∧ Grown G 1 ⟨some (c, 0), m, m⟩ (cellsOf t) ∧ t.length = i + 1)
    (fun y G => ∃ sl t, y = (sl, ()) ∧ Grown G 1 sl (cellsOf t) ∧ t.length ≤ 9)
    (by
      rintro i _ G hi ⟨q, c, m, t, rfl, hq, gt, ht⟩
      have hml : m = t.length := by have := gt.len; rw [cells_len] at this; show m = _; have h2 : t.length = m * 1 := this; omega
      by_cases h0 : 0 < q
      · have gp := gt.push (.cells [.int .u8 (IntKind.wrap .u8 (q : Int))] .exact)
        obtain ⟨a1, a2⟩ := gp.app (bytes := 1) (by decide) (n := 1) (new := [.int .u8 (IntKind.wrap .u8 (q : Int))]) (by decide) rfl (by show (m + 1) * 1 ≤ _; omega) (by show m + 1 ≤ _; omega)
        have hu : IntKind.wrap .u8 (q : Int) = (((UInt8.ofNat (q % 256)).toNat : Nat) : Int) := by
          rw [wrap_u8]
          have : (UInt8.ofNat (q % 256)).toNat = q % 256 := by simp
          rw [this]; omega
        have hc : cellsOf t ++ [C.int .u8 (IntKind.wrap .u8 (q : Int))] = cellsOf (t ++ [UInt8.ofNat (q % 256)]) := by rw [hu]; exact cells_snoc _ _
        rw [hc] at a1 a2
        have hr : slRow (G ++ [.cells [.int .u8 (IntKind.wrap .u8 (q : Int))] .exact]) 1 ⟨some (G.length, 0), 1, 1⟩ = some [.int .u8 (IntKind.wrap .u8 (q : Int))] := row_last rfl
        have hlt : 0 < (t ++ [UInt8.ofNat (q % 256)]).length := by rw [List.length_append]; show 0 < t.length + 1; omega
        generalize hG : grownH (G ++ [.cells [.int .u8 (IntKind.wrap .u8 (q : Int))] .exact]) ⟨some (c, 0), m, m⟩ (cellsOf (t ++ [UInt8.ofNat (q % 256)])) = G2 at a1 a2
        generalize hcc : (G ++ [Blk.cells [.int .u8 (IntKind.wrap .u8 (q : Int))] .exact]).length = c2 at a1 a2
        generalize htt : t ++ [UInt8.ofNat (q % 256)] = t2 at a2 hlt
        have hat : Sl.at 1 ⟨some (c2, 0), m + 1, m + 1⟩ 0 = some (c2, 0) := by
          rw [at_of (by decide) (by show (0 : Int) < ((m + 1 : Nat) : Int); omega)]; rfl
        obtain ⟨_, hb⟩ := a2.blk (c2, 0) rfl
        have hrd : rdI .u8 G2 c2 0 = some ((t2[0].toNat : Nat) : Int) := by
          rcases hb with hb | hb
          · exact rdI_of hb (by simp [cellsOf, hlt])
          · exact rdI_of hb (by simp [cellsOf, hlt])
        have hw : IntKind.wrap .u8 (((t2[0].toNat : Nat) : Int) + 1) = (((UInt8.ofNat ((t2[0].toNat + 1) % 256)).toNat : Nat) : Int) := by
          rw [wrap_u8]
          have : (UInt8.ofNat ((t2[0].toNat + 1) % 256)).toNat = (t2[0].toNat + 1) % 256 := by simp
          rw [this]; omega
        obtain ⟨G3, w1, w2⟩ := grown_set a2 hlt (UInt8.ofNat ((t2[0].toNat + 1) % 256))
        have hf : Int.fdiv (q : Int) (2 ^ (min (Int.toNat 8) (IntKind.bits .u64))) = ((q / 256 : Nat) : Int) := by
          rw [show (2 : Int) ^ (min (Int.toNat 8) (IntKind.bits .u64)) = 256 from rfl, Int.fdiv_eq_ediv_of_nonneg _ (by decide)]
          omega
        refine .inl ⟨_, G3, ?_, q / 256, c2, m + 1, _, rfl, ?_, w2, ?_⟩
        · unfold code_Num.s1
          simp only [decide_eq_true (show (0 : Int) < (q : Int) by omega), cond_t, hr, bind_some, a1, hat, hrd, hw, w1, hf]
        · have hp : 256 ^ (8 - i) = 256 ^ (8 - (i + 1)) * 256 := by rw [← Nat.pow_succ]; congr 1; omega
          rw [hp] at hq
          exact (Nat.div_lt_iff_lt_mul (by decide)).2 hq
        · rw [List.length_set, ← htt, List.length_append]; show t.length + 1 = _; omega
      · refine .inr ⟨_, G, ?_, _, t, rfl, gt, by omega⟩
        unfold code_Num.s1
        simp only [decide_eq_false (show ¬ (0 : Int) < (q : Int) by omega), cond_f])
    (by
      rintro _ G ⟨q, c, m, t, rfl, hq, gt, ht⟩
      have h0 : q = 0 := by
        have : q < 1 := hq
        omega
      refine ⟨_, G, ?_, _, t, rfl, gt, by omega⟩
      unfold code_Num.s1
      simp only [decide_eq_false (show ¬ (0 : Int) < (q : Int) by omega), cond_f])
    (y := ((n : Int), ⟨some (0, 0), 1, 1⟩, ())) (H := [.cells [.int .u8 0] .exact]) ⟨n, 0, 1, [0], rfl, by simpa using hn, ⟨rfl, rfl, fun hh => (by cases hh), fun a ha => (by cases ha; exact ⟨rfl, .inr rfl⟩)⟩, rfl⟩
  have l1' : loopW code_Num.s1 ((n : Int), ⟨some (([] : Heap).length, 0), 1, 1⟩, ()) ([] ++ [Blk.cells [.int .u8 0] .exact]) = some ((sl, ()), G) := l1
  exact ⟨t, by simp only [l1', bind_some, grown_str gt], ht⟩
theorem wrap64_ex (x : Int) : ∃ n : Nat, IntKind.wrap .u64 x = (n : Int) ∧ n < 18446744073709551616 := by
  refine ⟨(IntKind.wrap .u64 x).toNat, ?_, ?_⟩ <;> rw [wrap_u64] <;> omega
def ptrB (l : List Nat) : Blk := .cells (l.map fun o => C.ptr (some (0, o))) .exact
theorem rec_field (x : RecT) (A : Heap) {o : Nat} (ho : o < 6) : ∃ v, rdI .i64 (recB x :: A) 0 o = some v := by
  match o, ho with
  | 0, _ => exact ⟨_, rfl⟩
  | 1, _ => exact ⟨_, rfl⟩
  | 2, _ => exact ⟨_, rfl⟩
  | 3, _ => exact ⟨_, rfl⟩
  | 4, _ => exact ⟨_, rfl⟩
  | 5, _ => exact ⟨_, rfl⟩
theorem put_loop (x : RecT) (l : List Nat) (hl : ∀ o ∈ l, o < 6) (hn : l.length ≤ 3) (X : Blk) (q : Sl) (G0 : Heap) (s : Bytes) (hs : s.length ≤ 100) :
    ∃ t, loopW (rec_Put.s1 ((⟨some (1, 0), l.length, l.length⟩, q, ()), G0)) (s, 0, ()) [recB x, ptrB l, X] = some ((t, ()), [recB x, ptrB l, X]) ∧ t.length ≤ s.length + 27 := by
  obtain ⟨y, G, l1, t, rfl, rfl, ht⟩ := loop_rise (step := rec_Put.s1 ((⟨some (1, 0), l.length, l.length⟩, q, ()), G0)) l.length (fun i z G => ∃ t, z = (t, (i : Int), ()) ∧ G = [recB x, ptrB l, X] ∧ t.length ≤ s.length + 9 * i) (fun y G => ∃ t, y = (t, ()) ∧ G = [recB x, ptrB l, X] ∧ t.length ≤ s.length + 27)
    (by
      rintro i _ _ hi ⟨t, rfl, rfl, ht⟩
      have hat : Sl.at 1 ⟨some (1, 0), l.length, l.length⟩ (i : Int) = some (1, i) := by rw [at_of (by omega) (by show (i : Int) < (l.length : Int); omega), Int.toNat_natCast, Nat.mul_one, Nat.zero_add]
      have hp : rdP [recB x, ptrB l, X] 1 i = some (some (0, l[i])) := rdP_of (H := [recB x, ptrB l, X]) (b := 1) rfl (by simp [hi])
      obtain ⟨v, hv⟩ := rec_field x [ptrB l, X] (hl l[i] (List.getElem_mem hi))
      obtain ⟨n, hn1, hn2⟩ := wrap64_ex v
      obtain ⟨w, hw1, hw2⟩ := num_ok n hn2
      have hc := cat_of (a := t) (b := w) (by omega)
      refine .inl ⟨_, _, ?_, t ++ w, rfl, rfl, by rw [List.length_append]; omega⟩
      unfold rec_Put.s1
      simp only [decide_eq_true (show (i : Int) < (l.length : Int) by omega), cond_t, hat, bind_some, hp, hv, hn1, hw1, hc, wrap_succ (show i < 9223372036854775807 by omega)])
    (by
      rintro _ _ ⟨t, rfl, rfl, ht⟩
      refine ⟨_, _, ?_, t, rfl, rfl, by omega⟩
      unfold rec_Put.s1
      simp only [decide_eq_false (show ¬ (l.length : Int) < (l.length : Int) by omega), cond_f])
    (y := (s, ((0 : Nat) : Int), ())) (H := [recB x, ptrB l, X]) ⟨s, rfl, rfl, by omega⟩
  exact ⟨t, l1, ht⟩
theorem put_of {x : RecT} {l : List Nat} {X : Blk} {q : Sl} (hl : ∀ o ∈ l, o < 6) (hn : l.length ≤ 3) (hf : rec_fields (some (0, 0)) [recB x] = some ((⟨some (1, 0), l.length, l.length⟩, q, ()), [recB x, ptrB l, X])) : ∃ t, rec_Put x = some (t, ()) ∧ t.length ≤ 40 := by
  unfold rec_Put rec_Put.on
  obtain ⟨n, hn1, hn2⟩ := wrap64_ex x.1
  have q1 : ([] : Heap) ++ [Blk.cells [.int .i64 x.1, .int .i64 x.2.1, .int .i64 x.2.2.1, .int .i64 x.2.2.2.1, .int .i64 x.2.2.2.2.1, .int .i64 x.2.2.2.2.2.1] .exact] = [recB x] := rfl
  have r1 : rdI .i64 [recB x] ([] : Heap).length 0 = some x.1 := rfl
  have hfx : code_Fixed (n : Int) 1 = some (leB 1 n, ()) := code_Fixed_eq n 1 hn2 (by decide)
  obtain ⟨t, ht1, ht2⟩ := put_loop x l hl hn X q [recB x, ptrB l, X] (leB 1 n) (by rw [leB_length]; decide)
  have hf' : rec_fields (some (([] : Heap).length, 0)) [recB x] = some ((⟨some (1, 0), l.length, l.length⟩, q, ()), [recB x, ptrB l, X]) := hf
  rw [leB_length] at ht2
  exact ⟨t, by simp only [q1, r1, bind_some, hn1, hfx, hf', ht1], by omega⟩
theorem rec_put_ok (x : RecT) : ∃ t, rec_Put x = some (t, ()) ∧ t.length ≤ 40 := by
  obtain ⟨k, a, b, c, d, e, u⟩ := x
  by_cases h1 : k = 1
  · subst h1; exact put_of (l := [1, 2, 3]) (by decide) (by decide) rfl
  by_cases h2 : k = 2
  · subst h2; exact put_of (l := [1, 2]) (by decide) (by decide) rfl
  by_cases h3 : k = 3
  · subst h3; exact put_of (l := [3, 4]) (by decide) (by decide) rfl
  by_cases h4 : k = 4
  · subst h4; exact put_of (l := [1, 5]) (by decide) (by decide) rfl
  by_cases h5 : k = 5
  · subst h5; exact put_of (l := [1]) (by decide) (by decide) rfl
  by_cases h7 : k = 7
  · subst h7; exact put_of (l := [1]) (by decide) (by decide) rfl
  by_cases h6 : k = 6
  · subst h6; exact put_of (l := [1, 4]) (by decide) (by decide) rfl
  by_cases h8 : k = 8
  · subst h8; exact put_of (l := [3]) (by decide) (by decide) rfl
  by_cases h9 : k = 9
  · subst h9; exact put_of (l := [3, 5]) (by decide) (by decide) rfl
  unfold rec_Put rec_Put.on
  obtain ⟨n, hn1, hn2⟩ := wrap64_ex k
  have r1 : rdI .i64 [recB (k, a, b, c, d, e, u)] ([] : Heap).length 0 = some k := rfl
  have r1' : rdI .i64 [recB (k, a, b, c, d, e, u)] 0 0 = some k := rfl
  have q1 : ([] : Heap) ++ [Blk.cells [.int .i64 k, .int .i64 a, .int .i64 b, .int .i64 c, .int .i64 d, .int .i64 e] .exact] = [recB (k, a, b, c, d, e, u)] := rfl
  have hfx : code_Fixed (n : Int) 1 = some (leB 1 n, ()) := code_Fixed_eq n 1 hn2 (by decide)
  have hf : rec_fields (some (0, 0)) [recB (k, a, b, c, d, e, u)] = some ((⟨none, 0, 0⟩, ⟨none, 0, 0⟩, ()), [recB (k, a, b, c, d, e, u)]) := by
    unfold rec_fields
    simp only [bind_some, r1', decide_eq_false h1, decide_eq_false h2, decide_eq_false h3, decide_eq_false h4, decide_eq_false h5, decide_eq_false h6, decide_eq_false h7, decide_eq_false h8, decide_eq_false h9, cond_f]
  have hf' : rec_fields (some (([] : Heap).length, 0)) [recB (k, a, b, c, d, e, u)] = some ((⟨none, 0, 0⟩, ⟨none, 0, 0⟩, ()), [recB (k, a, b, c, d, e, u)]) := hf
  have hl : loopW (rec_Put.s1 ((⟨none, 0, 0⟩, ⟨none, 0, 0⟩, ()), [recB (k, a, b, c, d, e, u)])) (leB 1 n, 0, ()) [recB (k, a, b, c, d, e, u)] = some ((leB 1 n, ()), [recB (k, a, b, c, d, e, u)]) := loopW_eq (n := 1) (by
    rw [iter]
    unfold rec_Put.s1
    simp only [show decide ((0 : Int) < (((⟨none, 0, 0⟩ : Sl).len : Nat) : Int)) = false from rfl, cond_f]
    rfl)
  exact ⟨leB 1 n, by simp only [q1, r1, bind_some, hn1, hfx, hf', hl], by rw [leB_length]; decide⟩

def i64B (l : List Int) : Blk := .cells (l.map (C.int .i64)) .exact
theorem check_of {x y : RecT} {vs ls ms : List Int} (hl : ls.length = vs.length) (hm : ms.length = vs.length) (hv : vs.length ≤ 3) {Z : Blk}
    (hrow : ref07_row x [recB x] = some ((⟨some (2, 0), vs.length, vs.length⟩, ⟨some (3, 0), vs.length, vs.length⟩, ⟨some (4, 0), vs.length, vs.length⟩, true, ()), [recB x, recB x, i64B vs, i64B ls, i64B ms]))
    (hof : ref07_of x.1 ⟨some (2, 0), vs.length, vs.length⟩ [recB x, recB x, i64B vs, i64B ls, i64B ms] = some ((y, ()), [recB x, recB x, i64B vs, i64B ls, i64B ms, Z])) : ∃ b, ref07_Check x = some (b, ()) := by
  unfold ref07_Check ref07_Check.on
  have q1 : ([] : Heap) ++ [Blk.cells [.int .i64 x.1, .int .i64 x.2.1, .int .i64 x.2.2.1, .int .i64 x.2.2.2.1, .int .i64 x.2.2.2.2.1, .int .i64 x.2.2.2.2.2.1] .exact] = [recB x] := rfl
  have r1 : @Eq (Option RecT) (rd [recB x] (.agg [.int .i64, .int .i64, .int .i64, .int .i64, .int .i64, .int .i64]) ([] : Heap).length 0) (some x) := rfl
  have r2 : rdI .i64 [recB x, recB x, i64B vs, i64B ls, i64B ms] ([] : Heap).length 0 = some x.1 := rfl
  have r3 : @Eq (Option RecT) (rd [recB x, recB x, i64B vs, i64B ls, i64B ms] (.agg [.int .i64, .int .i64, .int .i64, .int .i64, .int .i64, .int .i64]) ([] : Heap).length 0) (some x) := rfl
  have r4 : @Eq (Option RecT) (rd [recB x, recB x, i64B vs, i64B ls, i64B ms, Z] (.agg [.int .i64, .int .i64, .int .i64, .int .i64, .int .i64, .int .i64]) ([] : Heap).length 0) (some x) := rfl
  have ex : (x.1, x.2.1, x.2.2.1, x.2.2.2.1, x.2.2.2.2.1, x.2.2.2.2.2.1, ()) = x := rfl
  obtain ⟨w, G, l1, lw⟩ := loop_rise (step := ref07_Check.s1 ((⟨some (2, 0), vs.length, vs.length⟩, ⟨some (3, 0), vs.length, vs.length⟩, ⟨some (4, 0), vs.length, vs.length⟩, true, ()), [recB x, recB x, i64B vs, i64B ls, i64B ms])) vs.length
    (fun i z G => z = ((i : Int), ()) ∧ G = [recB x, recB x, i64B vs, i64B ls, i64B ms, Z]) (fun _ _ => True)
    (by
      rintro i _ _ hi ⟨rfl, rfl⟩
      have hat : ∀ c, Sl.at 1 ⟨some (c, 0), vs.length, vs.length⟩ (i : Int) = some (c, i) := fun c => by rw [at_of (by omega) (by show (i : Int) < (vs.length : Int); omega), Int.toNat_natCast, Nat.mul_one, Nat.zero_add]
      have g1 : rdI .i64 [recB x, recB x, i64B vs, i64B ls, i64B ms, Z] 2 i = some vs[i] := rdI_of (H := [recB x, recB x, i64B vs, i64B ls, i64B ms, Z]) (b := 2) rfl (by simp [hi])
      have g2 : rdI .i64 [recB x, recB x, i64B vs, i64B ls, i64B ms, Z] 3 i = some (ls[i]'(by omega)) := rdI_of (H := [recB x, recB x, i64B vs, i64B ls, i64B ms, Z]) (b := 3) rfl (by simp [hl, hi])
      have g3 : rdI .i64 [recB x, recB x, i64B vs, i64B ls, i64B ms, Z] 4 i = some (ms[i]'(by omega)) := rdI_of (H := [recB x, recB x, i64B vs, i64B ls, i64B ms, Z]) (b := 4) rfl (by simp [hm, hi])
      have hst : ∀ X, ref07_Check.s1 ((⟨some (2, 0), vs.length, vs.length⟩, ⟨some (3, 0), vs.length, vs.length⟩, ⟨some (4, 0), vs.length, vs.length⟩, true, ()), [recB x, recB x, i64B vs, i64B ls, i64B ms]) ((i : Int), ()) [recB x, recB x, i64B vs, i64B ls, i64B ms, Z] = X ↔ (cond (decide (vs[i] < (ls[i]'(by omega)))) (some (Sum.inr (Sum.inr ((false, ()) : Bool × Unit)), [recB x, recB x, i64B vs, i64B ls, i64B ms, Z])) (cond (decide ((ms[i]'(by omega)) < vs[i])) (some (Sum.inr (Sum.inr ((false, ()) : Bool × Unit)), [recB x, recB x, i64B vs, i64B ls, i64B ms, Z])) (some (Sum.inl (((i + 1 : Nat) : Int), ()), [recB x, recB x, i64B vs, i64B ls, i64B ms, Z])))) = X := by
        intro X
        unfold ref07_Check.s1
        simp only [decide_eq_true (show (i : Int) < (vs.length : Int) by omega), cond_t, hat, bind_some, g1, g2, g3, wrap_succ (show i < 9223372036854775807 by omega)]
      by_cases c1 : vs[i] < (ls[i]'(by omega))
      · exact .inr ⟨_, _, (hst _).2 (by rw [decide_eq_true c1, cond_t]), trivial⟩
      · by_cases c2 : (ms[i]'(by omega)) < vs[i]
        · exact .inr ⟨_, _, (hst _).2 (by rw [decide_eq_false c1, cond_f, decide_eq_true c2, cond_t]), trivial⟩
        · exact .inl ⟨_, _, (hst _).2 (by rw [decide_eq_false c1, cond_f, decide_eq_false c2, cond_f]), rfl, rfl⟩)
    (by
      rintro _ _ ⟨rfl, rfl⟩
      refine ⟨.inl (), [recB x, recB x, i64B vs, i64B ls, i64B ms, Z], ?_, trivial⟩
      unfold ref07_Check.s1
      simp only [decide_eq_false (show ¬ (vs.length : Int) < (vs.length : Int) by omega), cond_f])
    (y := (((0 : Nat) : Int), ())) (H := [recB x, recB x, i64B vs, i64B ls, i64B ms, Z]) ⟨rfl, rfl⟩
  have l1' : loopW (ref07_Check.s1 ((⟨some (2, 0), vs.length, vs.length⟩, ⟨some (3, 0), vs.length, vs.length⟩, ⟨some (4, 0), vs.length, vs.length⟩, true, ()), [recB x, recB x, i64B vs, i64B ls, i64B ms])) (0, ()) [recB x, recB x, i64B vs, i64B ls, i64B ms, Z] = some (w, G) := l1
  simp only [q1, r1, bind_some, ex, hrow, Bool.not_true, cond_f, r2, r3, hof, r4, if_true, l1']
  cases hb : (decide (y.1 = x.1) && (decide (y.2.1 = x.2.1) && (decide (y.2.2.1 = x.2.2.1) && (decide (y.2.2.2.1 = x.2.2.2.1) && (decide (y.2.2.2.2.1 = x.2.2.2.2.1) && (decide (y.2.2.2.2.2.1 = x.2.2.2.2.2.1) && true)))))) with
  | false => exact ⟨false, rfl⟩
  | true =>
    cases w with
    | inl u => exact ⟨true, rfl⟩
    | inr z => exact ⟨z.1, rfl⟩
theorem rec_check_ok (x : RecT) : ∃ b, ref07_Check x = some (b, ()) := by
  obtain ⟨k, a, b, c, d, e, u⟩ := x
  by_cases h1 : k = 1
  · subst h1; exact check_of (vs := [a, b, c]) (ls := [1, 0, 0]) (ms := [15, 1023, 511]) rfl rfl (by simp) rfl rfl
  by_cases h2 : k = 2
  · subst h2; exact check_of (vs := [a, b]) (ls := [1, 0]) (ms := [15, 1023]) rfl rfl (by simp) rfl rfl
  by_cases h3 : k = 3
  · subst h3; exact check_of (vs := [c, d]) (ls := [0, 0]) (ms := [511, 511]) rfl rfl (by simp) rfl rfl
  by_cases h4 : k = 4
  · subst h4; exact check_of (vs := [a, e]) (ls := [1, 1]) (ms := [15, 1024]) rfl rfl (by simp) rfl rfl
  by_cases h5 : k = 5
  · subst h5; exact check_of (vs := [a]) (ls := [1]) (ms := [15]) rfl rfl (by simp) rfl rfl
  by_cases h7 : k = 7
  · subst h7; exact check_of (vs := [a]) (ls := [1]) (ms := [15]) rfl rfl (by simp) rfl rfl
  by_cases h6 : k = 6
  · subst h6; exact check_of (vs := [a, d]) (ls := [1, 1]) (ms := [15, 15]) rfl rfl (by simp) rfl rfl
  by_cases h8 : k = 8
  · subst h8; exact check_of (vs := [c]) (ls := [0]) (ms := [31]) rfl rfl (by simp) rfl rfl
  by_cases h9 : k = 9
  · subst h9; exact check_of (vs := [c, e]) (ls := [0, 0]) (ms := [31, 1073741824]) rfl rfl (by simp) rfl rfl
  refine ⟨false, ?_⟩
  have hr : ∃ R, ref07_row (k, a, b, c, d, e, u) [recB (k, a, b, c, d, e, u)] = some ((⟨none, 0, 0⟩, ⟨none, 0, 0⟩, ⟨none, 0, 0⟩, false, ()), R) := by
    have r1' : rdI .i64 ([recB (k, a, b, c, d, e, u)] ++ [recB (k, a, b, c, d, e, u)]) [recB (k, a, b, c, d, e, u)].length 0 = some k := rfl
    have q2 : [recB (k, a, b, c, d, e, u)] ++ [Blk.cells [.int .i64 k, .int .i64 a, .int .i64 b, .int .i64 c, .int .i64 d, .int .i64 e] .exact] = [recB (k, a, b, c, d, e, u)] ++ [recB (k, a, b, c, d, e, u)] := rfl
    refine ⟨[recB (k, a, b, c, d, e, u)] ++ [recB (k, a, b, c, d, e, u)], ?_⟩
    unfold ref07_row
    simp only [q2, bind_some, r1', decide_eq_false h1, decide_eq_false h2, decide_eq_false h3, decide_eq_false h4, decide_eq_false h5, decide_eq_false h6, decide_eq_false h7, decide_eq_false h8, decide_eq_false h9, cond_f]
  obtain ⟨R, hr⟩ := hr
  unfold ref07_Check ref07_Check.on
  have q1 : ([] : Heap) ++ [Blk.cells [.int .i64 k, .int .i64 a, .int .i64 b, .int .i64 c, .int .i64 d, .int .i64 e] .exact] = [recB (k, a, b, c, d, e, u)] := rfl
  have r1 : @Eq (Option RecT) (rd [recB (k, a, b, c, d, e, u)] (.agg [.int .i64, .int .i64, .int .i64, .int .i64, .int .i64, .int .i64]) ([] : Heap).length 0) (some (k, a, b, c, d, e, u)) := rfl
  have hr' : ref07_row (k, a, b, c, d, e, ()) [recB (k, a, b, c, d, e, u)] = some ((⟨none, 0, 0⟩, ⟨none, 0, 0⟩, ⟨none, 0, 0⟩, false, ()), R) := hr
  simp only [q1, r1, bind_some, hr', Bool.not_false, cond_t]
end Ev

/- Records are packed into texts. -/
namespace Ev
open Go (IntKind)

abbrev rts : List CT := [.int .i64, .int .i64, .int .i64, .int .i64, .int .i64, .int .i64]
abbrev rC (x : RecT) : List C := [.int .i64 x.1, .int .i64 x.2.1, .int .i64 x.2.2.1, .int .i64 x.2.2.2.1, .int .i64 x.2.2.2.2.1, .int .i64 x.2.2.2.2.2.1]
def rowsR (L : List RecT) : List C := (L.map rC).flatten
theorem rowsR_len (L : List RecT) : (rowsR L).length = L.length * 6 := rowsC_length (cts := rts) L
theorem rowsR_snoc (L : List RecT) (x : RecT) : rowsR (L ++ [x]) = rowsR L ++ rC x := by unfold rowsR; simp
theorem rec_at {H : Heap} {s : Sl} {L : List RecT} (h : Row H 6 s (rowsR L)) {i : Nat} (hi : i < L.length) : ∃ b o, Sl.at 6 s (i : Int) = some (b, o) ∧ @Eq (Option RecT) (rd H (.agg [.int .i64, .int .i64, .int .i64, .int .i64, .int .i64, .int .i64]) b o) (some L[i]) := by
  obtain ⟨b, o, _, h1, h0, cs, bk, h2, h3, h4⟩ := Row.at (cts := rts) (rows := L) h hi (by decide)
  have h4' : (cs.drop o).take 6 = rC L[i] := h4
  exact ⟨b, o, h1, rd_agg_of (ts := rts) h2 h3 (by show Tup.un rts ((cs.drop o).take 6) = _; rw [h4']; rfl)⟩
theorem rec_len {H : Heap} {s : Sl} {L : List RecT} (h : Row H 6 s (rowsR L)) : s.len = L.length := by
  have := h.len
  rw [rowsR_len] at this
  omega
noncomputable def rp (x : RecT) : Bytes := Classical.choose (rec_put_ok x)
theorem rp_eq (x : RecT) : rec_Put x = some (rp x, ()) ∧ (rp x).length ≤ 40 := Classical.choose_spec (rec_put_ok x)

noncomputable def packS (size : Nat) (p : List Bytes × Bytes) (x : RecT) : List Bytes × Bytes := if p.2.length + (rp x).length ≤ size then (p.1, p.2 ++ rp x) else (p.1 ++ [p.2], rp x)
noncomputable def packN (size : Nat) (L : List RecT) : List Bytes × Bytes := L.foldl (packS size) ([], [])
noncomputable def packF (size : Nat) (L : List RecT) : List Bytes := (packN size L).1 ++ [(packN size L).2]
theorem packN_ok (size : Nat) (hs : 40 ≤ size) : ∀ (L : List RecT) (p : List Bytes × Bytes), (∀ x ∈ p.1, x.length ≤ size) → p.2.length ≤ size → (L.foldl (packS size) p).1.length ≤ p.1.length + L.length ∧ (∀ x ∈ (L.foldl (packS size) p).1, x.length ≤ size) ∧ (L.foldl (packS size) p).2.length ≤ size
  | [], p, h1, h2 => ⟨by simp, h1, h2⟩
  | x :: r, p, h1, h2 => by
    rw [List.foldl_cons]
    have hr := (rp_eq x).2
    by_cases hle : p.2.length + (rp x).length ≤ size
    · rw [show packS size p x = (p.1, p.2 ++ rp x) from if_pos hle]
      have ih := packN_ok size hs r (p.1, p.2 ++ rp x) h1 (by rw [List.length_append]; exact hle)
      refine ⟨?_, ih.2⟩
      have := ih.1
      simp only [List.length_cons] at this ⊢
      omega
    · rw [show packS size p x = (p.1 ++ [p.2], rp x) from if_neg hle]
      have ih := packN_ok size hs r (p.1 ++ [p.2], rp x) (fun y hy => by
        rcases List.mem_append.1 hy with hy | hy
        · exact h1 y hy
        · rw [List.mem_singleton] at hy; subst hy; exact h2) (by show (rp x).length ≤ size; omega)
      refine ⟨?_, ih.2⟩
      have := ih.1
      simp only [List.length_cons, List.length_append, List.length_singleton, List.length_nil] at this ⊢
      omega
theorem packF_first (size : Nat) (hs : 40 ≤ size) (x : RecT) (r : List RecT) : packN size (x :: r) = r.foldl (packS size) ([], rp x) := by
  unfold packN
  rw [List.foldl_cons]
  have hr := (rp_eq x).2
  unfold packS
  rw [if_pos (by show 0 + (rp x).length ≤ size; omega)]
  rfl
/-- So many texts, none of them too long. -/
theorem packF_ok (size : Nat) (hs : 40 ≤ size) (L : List RecT) : 1 ≤ (packF size L).length ∧ (packF size L).length ≤ max 1 L.length ∧ ∀ x ∈ packF size L, x.length ≤ size := by
  unfold packF
  refine ⟨by simp, ?_, ?_⟩
  · cases L with
    | nil => simp [packN]
    | cons x r =>
      rw [packF_first size hs]
      have := (packN_ok size hs r ([], rp x) (fun y h => by cases h) (by show (rp x).length ≤ size; have := (rp_eq x).2; omega)).1
      simp only [List.length_append, List.length_cons, List.length_nil] at this ⊢
      omega
  · intro x hx
    have := (packN_ok size hs L ([], []) (fun y h => by cases h) (by simp)).2
    rcases List.mem_append.1 hx with hx | hx
    · exact this.1 x hx
    · rw [List.mem_singleton] at hx; subst hx; exact this.2

theorem GrowN.set {H0 G : Heap} {s : Sl} {cs : List C} (g : GrowN H0 G 1 s cs) {i : Nat} (hi : i < cs.length) (c : C) : ∃ b G', s.p = some (b, 0) ∧ Sl.at 1 s (i : Int) = some (b, i) ∧ wr G b i [c] = some G' ∧ GrowN H0 G' 1 s (cs.set i c) := by
  obtain ⟨p, len, cap⟩ := s
  have hl := g.gr.len
  have hl' : cs.length = len := by have : cs.length = len * 1 := hl; omega
  cases p with
  | none =>
    have : len = 0 := g.gr.nil rfl
    omega
  | some a =>
    obtain ⟨c0, o⟩ := a
    obtain ⟨ho, hb⟩ := g.gr.blk _ rfl
    have ho' : o = 0 := ho
    subst ho'
    have hat : Sl.at 1 ⟨some (c0, 0), len, cap⟩ (i : Int) = some (c0, i) := by rw [at_of (by omega) (by show (i : Int) < (len : Int); omega), Int.toNat_natCast, Nat.mul_one, Nat.zero_add]
    have hn := g.new (c0, 0) rfl
    have kk : ∀ (bk : BK), Keep (fun j => j = c0) G (G.set c0 (.cells (cs.set i c) bk)) := fun bk => Keep.set _ _ _ rfl
    have keep' : ∀ (bk : BK), Keep (fun _ => False) H0 (G.set c0 (.cells (cs.set i c) bk)) := fun bk => by
      have h1 := g.keep.len
      refine ⟨by simp; omega, fun j hj _ => ?_⟩
      have hn' : H0.length ≤ c0 := hn
      rw [set_get' (by omega), g.keep.same j hj id]
    rcases hb with hb | hb
    · have hb' : G[c0]? = some (.cells cs .loose) := hb
      refine ⟨c0, _, rfl, hat, wr1_of hb' (by decide) hi, ⟨g.gr.cap, by rw [List.length_set]; exact hl, g.gr.nil, fun a ha => by cases ha; exact ⟨rfl, .inl (set_get (get_lt hb'))⟩⟩, keep' _, g.new⟩
    · have hb' : G[c0]? = some (.cells cs .exact) := hb
      refine ⟨c0, _, rfl, hat, wr1_of hb' (by decide) hi, ⟨g.gr.cap, by rw [List.length_set]; exact hl, g.gr.nil, fun a ha => by cases ha; exact ⟨rfl, .inr (set_get (get_lt hb'))⟩⟩, keep' _, g.new⟩

theorem pack_eq {H : Heap} {s : Sl} {L : List RecT} {size : Nat} (hs : Row H 6 s (rowsR L)) (hl : L.length ≤ 10000) (hz : 40 ≤ size ∧ size ≤ 10000) :
    ∃ t G, group_Pack s (size : Int) H = some ((t, ()), G) ∧ GrowN H G 1 t ((packF size L).map C.str) := by
  have hsl := rec_len hs
  unfold group_Pack
  have g0 : GrowN H (H ++ [.cells [.str []] .exact]) 1 ⟨some (H.length, 0), 1, 1⟩ [.str []] :=
    ⟨⟨rfl, rfl, fun h => by (cases h), fun a h => by cases h; exact ⟨rfl, .inr app_last⟩⟩, Keep.push _ _ _, fun a h => by cases h; exact Nat.le_refl _⟩
  obtain ⟨u, G, l1, t, rfl, g⟩ := loop_rise (step := group_Pack.s1 s (size : Int)) L.length (fun i y G => ∃ t, y = (t, (i : Int), ()) ∧ GrowN H G 1 t ((packF size (L.take i)).map C.str)) (fun y G => ∃ t, y = (t, ()) ∧ GrowN H G 1 t ((packF size L).map C.str))
    (by
      rintro i _ G hi ⟨t, rfl, g⟩
      refine .inl ?_
      obtain ⟨b, o, a1, a2⟩ := rec_at (hs.keep g.keep fun _ _ _ h => h) hi
      obtain ⟨p1, p2⟩ := rp_eq L[i]
      have hstep : packN size (L.take (i + 1)) = packS size (packN size (L.take i)) L[i] := by
        unfold packN
        rw [List.take_succ_eq_append_getElem hi, List.foldl_append]; rfl
      have hok := packN_ok size hz.1 (L.take i) ([], []) (fun y h => by cases h) (by simp)
      have hA : (packN size (L.take i)).1.length ≤ i := by
        have := hok.1
        have h3 : ((L.take i).foldl (packS size) ([], [])).1.length ≤ 0 + (L.take i).length := this
        have h4 : (L.take i).length ≤ i := by rw [List.length_take]; omega
        unfold packN
        omega
      have hlast : (packN size (L.take i)).2.length ≤ size := hok.2.2
      unfold packF at g ⊢
      rw [hstep]
      generalize packN size (L.take i) = p at g hA hlast
      obtain ⟨A, l⟩ := p
      generalize L[i] = x at a2 p1 p2
      simp only at g hA hlast ⊢
      have hlen : decide ((i : Int) < (s.len : Int)) = true := decide_eq_true (by omega)
      have hsu := wrap_succ (show i < 9223372036854775807 by omega)
      have g1 := g.more (.cells (rC x) .exact)
      let G1 : Heap := G ++ [.cells (rC x) .exact]
      have w1 : wr (G ++ [Blk.cells [.int .i64 0, .int .i64 0, .int .i64 0, .int .i64 0, .int .i64 0, .int .i64 0] .exact]) G.length 0 (rC x) = some G1 := by
        rw [wr_last (by decide) (by simp)]; rfl
      have e1 : @Eq (Option RecT) (rd G1 (.agg [.int .i64, .int .i64, .int .i64, .int .i64, .int .i64, .int .i64]) G.length 0) (some x) := rd_agg_of (ts := rts) app_last (Nat.le_refl 6) rfl
      have p1' : rec_Put (x.1, x.2.1, x.2.2.1, x.2.2.2.1, x.2.2.2.2.1, x.2.2.2.2.2.1, ()) = some (rp x, ()) := p1
      have htl : t.len = A.length + 1 := by
        have := g.gr.len
        simp at this; omega
      have hwl : IntKind.wrap .i64 ((t.len : Int) - 1) = (A.length : Int) := by rw [wrap_i64 (by omega) (by omega)]; omega
      obtain ⟨c, oo, t1, t2, _⟩ := g1.row.txt (l := A ++ [l]) (i := A.length) (by simp)
      have hgl : (A ++ [l])[A.length]'(by simp) = l := by simp
      rw [hgl] at t2
      have hwn : IntKind.wrap .i64 ((l.length : Int) + ((rp x).length : Int)) = ((l.length + (rp x).length : Nat) : Int) := by rw [wrap_i64 (by omega) (by omega)]; omega
      by_cases hfit : l.length + (rp x).length ≤ size
      · obtain ⟨b2, G2, s1, s2, s3, s4⟩ := GrowN.set g1 (i := A.length) (by simp) (.str (l ++ rp x))
        have hcc : (c, oo) = (b2, A.length) := Option.some.inj (t1.symm.trans s2)
        obtain ⟨rfl, rfl⟩ := Prod.mk.inj hcc
        have hc := cat_of (a := l) (b := rp x) (by omega)
        refine ⟨_, G2, ?_, t, rfl, ?_⟩
        · unfold group_Pack.s1
          have s3' : wr G1 c A.length [.str (l ++ rp x)] = some G2 := s3
          have t2' : rdS G1 c A.length = some l := t2
          simp only [hlen, cond_t, a1, bind_some, a2, w1, e1, p1', hwl, t1, t2', hwn, decide_eq_true (show ((l.length + (rp x).length : Nat) : Int) ≤ (size : Int) by omega), hc, s3', hsu]
        · unfold packS
          rw [if_pos hfit]
          have : ((A ++ [l]).map C.str).set A.length (.str (l ++ rp x)) = (A ++ [l ++ rp x]).map C.str := by simp
          rw [← this]; exact s4
      · obtain ⟨t', G2, b1, b2, b3, b4, _⟩ := g1.one (bytes := 16) (new := [.str (rp x)]) (by decide) rfl (by omega) (by omega)
        have b1' : slRow (G1 ++ [Blk.cells [.str (rp x)] .exact]) 1 ⟨some (G1.length, 0), 1, 1⟩ = some [.str (rp x)] := b1
        have b2' : appS (G1 ++ [Blk.cells [.str (rp x)] .exact]) 1 16 t 1 [.str (rp x)] = some (t', G2) := b2
        refine ⟨_, G2, ?_, t', rfl, ?_⟩
        · unfold group_Pack.s1
          have t2' : rdS G1 c oo = some l := t2
          simp only [hlen, cond_t, a1, bind_some, a2, w1, e1, p1', hwl, t1, t2', hwn, decide_eq_false (show ¬ ((l.length + (rp x).length : Nat) : Int) ≤ (size : Int) by omega), cond_f, b1', b2', hsu]
        · unfold packS
          rw [if_neg hfit]
          have : (A ++ [l]).map C.str ++ [.str (rp x)] = ((A ++ [l]) ++ [rp x]).map C.str := by simp
          rw [← this]; exact b3)
    (by
      rintro _ G ⟨t, rfl, g⟩
      refine ⟨_, G, ?_, t, rfl, by rwa [List.take_length] at g⟩
      unfold group_Pack.s1
      simp only [decide_eq_false (show ¬ ((L.length : Nat) : Int) < (s.len : Int) by omega), cond_f])
    (y := (⟨some (H.length, 0), 1, 1⟩, ((0 : Nat) : Int), ())) (H := H ++ [.cells [.str []] .exact]) ⟨_, rfl, g0⟩
  have l1' : loopW (group_Pack.s1 s (size : Int)) (⟨some (H.length, 0), 1, 1⟩, 0, ()) (H ++ [.cells [.str []] .exact]) = some ((t, ()), G) := l1
  exact ⟨t, G, by simp only [l1', bind_some], g⟩
end Ev
