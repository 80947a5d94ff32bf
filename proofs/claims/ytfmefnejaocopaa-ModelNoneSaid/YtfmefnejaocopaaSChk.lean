/- Which records may be: the program's check and the reference's are one. -/
import Derived.Test.YtfmefnejaocopaaGRec
import Derived.Test.YtfmefnejaocopaaGRef07
import Derived.Test.YtfmefnejaocopaaRws
import Derived.Test.YtfmefnejaocopaaArr
import Derived.Test.YtfmefnejaocopaaUp
import Derived.Test.YtfmefnejaocopaaLp
set_option linter.unusedSimpArgs false
set_option linter.unusedVariables false
namespace Ev
open Go (IntKind)

abbrev RecT := Int × Int × Int × Int × Int × Int × Unit
def recB (x : RecT) : Blk := .cells [.int .i64 x.1, .int .i64 x.2.1, .int .i64 x.2.2.1, .int .i64 x.2.2.2.1, .int .i64 x.2.2.2.2.1, .int .i64 x.2.2.2.2.2.1] .exact
def inB (n lo hi : Int) : Bool := decide (lo ≤ n ∧ n ≤ hi)
def inAll : List Int → List Int → List Int → Bool
  | v :: vs, l :: ls, m :: ms => inB v l m && inAll vs ls ms
  | _, _, _ => true
def chkR (x : RecT) : Bool :=
  if x.1 = 1 then inAll [x.2.1, x.2.2.1, x.2.2.2.1] [1, 0, 0] [15, 1023, 511] && decide (x.2.2.2.2.1 = 0 ∧ x.2.2.2.2.2.1 = 0) else
  if x.1 = 2 then inAll [x.2.1, x.2.2.1] [1, 0] [15, 1023] && decide (x.2.2.2.1 = 0 ∧ x.2.2.2.2.1 = 0 ∧ x.2.2.2.2.2.1 = 0) else
  if x.1 = 3 then inAll [x.2.2.2.1, x.2.2.2.2.1] [0, 0] [511, 511] && decide (x.2.1 = 0 ∧ x.2.2.1 = 0 ∧ x.2.2.2.2.2.1 = 0) else
  if x.1 = 4 then inAll [x.2.1, x.2.2.2.2.2.1] [1, 1] [15, 1024] && decide (x.2.2.1 = 0 ∧ x.2.2.2.1 = 0 ∧ x.2.2.2.2.1 = 0) else
  if x.1 = 5 ∨ x.1 = 7 then inAll [x.2.1] [1] [15] && decide (x.2.2.1 = 0 ∧ x.2.2.2.1 = 0 ∧ x.2.2.2.2.1 = 0 ∧ x.2.2.2.2.2.1 = 0) else
  if x.1 = 6 then inAll [x.2.1, x.2.2.2.2.1] [1, 1] [15, 15] && decide (x.2.2.1 = 0 ∧ x.2.2.2.1 = 0 ∧ x.2.2.2.2.2.1 = 0) else
  if x.1 = 8 then inAll [x.2.2.2.1] [0] [31] && decide (x.2.1 = 0 ∧ x.2.2.1 = 0 ∧ x.2.2.2.2.1 = 0 ∧ x.2.2.2.2.2.1 = 0) else
  if x.1 = 9 then inAll [x.2.2.2.1, x.2.2.2.2.2.1] [0, 0] [31, 1073741824] && decide (x.2.1 = 0 ∧ x.2.2.1 = 0 ∧ x.2.2.2.2.1 = 0) else false

theorem inAll_iff : ∀ {vs ls ms : List Int}, ls.length = vs.length → ms.length = vs.length → (inAll vs ls ms = true ↔ ∀ i (h : i < vs.length) (h1 : i < ls.length) (h2 : i < ms.length), ls[i] ≤ vs[i] ∧ vs[i] ≤ ms[i])
  | [], [], [], _, _ => by simp [inAll]
  | v :: vs, l :: ls, m :: ms, h1, h2 => by
    have ih := inAll_iff (vs := vs) (ls := ls) (ms := ms) (by simpa using h1) (by simpa using h2)
    simp only [inAll, Bool.and_eq_true, ih, inB, decide_eq_true_eq]
    constructor
    · rintro ⟨a, b⟩ i hi hi1 hi2
      cases i with
      | zero => exact a
      | succ i => exact b i (by simpa using hi) (by simpa using hi1) (by simpa using hi2)
    · intro h
      exact ⟨h 0 (by simp) (by simp) (by simp), fun i a b c => h (i + 1) (by simpa using a) (by simpa using b) (by simpa using c)⟩
  | [], _ :: _, _, h, _ => by simp at h
  | [], [], _ :: _, _, h => by simp at h
  | _ :: _, [], _, h, _ => by simp at h
  | _ :: _, _ :: _, [], _, h => by simp at h

def i64B (l : List Int) : Blk := .cells (l.map (C.int .i64)) .exact
/-! The reference's. -/
theorem check_of {x y : RecT} {vs ls ms : List Int} (hl : ls.length = vs.length) (hm : ms.length = vs.length) {Z : Blk}
    (hrow : ref07_row x [recB x] = some ((⟨some (2, 0), vs.length, vs.length⟩, ⟨some (3, 0), vs.length, vs.length⟩, ⟨some (4, 0), vs.length, vs.length⟩, true, ()), [recB x, recB x, i64B vs, i64B ls, i64B ms]))
    (hof : ref07_of x.1 ⟨some (2, 0), vs.length, vs.length⟩ [recB x, recB x, i64B vs, i64B ls, i64B ms] = some ((y, ()), [recB x, recB x, i64B vs, i64B ls, i64B ms, Z])) (hv : vs.length ≤ 3) :
    ref07_Check x = some ((decide (y.1 = x.1) && (decide (y.2.1 = x.2.1) && (decide (y.2.2.1 = x.2.2.1) && (decide (y.2.2.2.1 = x.2.2.2.1) && (decide (y.2.2.2.2.1 = x.2.2.2.2.1) && (decide (y.2.2.2.2.2.1 = x.2.2.2.2.2.1) && true)))))) && inAll vs ls ms, ()) := by
  unfold ref07_Check ref07_Check.on
  have q1 : ([] : Heap) ++ [Blk.cells [.int .i64 x.1, .int .i64 x.2.1, .int .i64 x.2.2.1, .int .i64 x.2.2.2.1, .int .i64 x.2.2.2.2.1, .int .i64 x.2.2.2.2.2.1] .exact] = [recB x] := rfl
  have r1 : @Eq (Option RecT) (rd [recB x] (.agg [.int .i64, .int .i64, .int .i64, .int .i64, .int .i64, .int .i64]) ([] : Heap).length 0) (some x) := rfl
  have r2 : rdI .i64 [recB x, recB x, i64B vs, i64B ls, i64B ms] ([] : Heap).length 0 = some x.1 := rfl
  have r3 : @Eq (Option RecT) (rd [recB x, recB x, i64B vs, i64B ls, i64B ms] (.agg [.int .i64, .int .i64, .int .i64, .int .i64, .int .i64, .int .i64]) ([] : Heap).length 0) (some x) := rfl
  have r4 : @Eq (Option RecT) (rd [recB x, recB x, i64B vs, i64B ls, i64B ms, Z] (.agg [.int .i64, .int .i64, .int .i64, .int .i64, .int .i64, .int .i64]) ([] : Heap).length 0) (some x) := rfl
  have ex : (x.1, x.2.1, x.2.2.1, x.2.2.2.1, x.2.2.2.2.1, x.2.2.2.2.2.1, ()) = x := rfl
  have hiff := inAll_iff hl hm
  obtain ⟨w, G, l1, lw⟩ := loop_rise (step := ref07_Check.s1 ((⟨some (2, 0), vs.length, vs.length⟩, ⟨some (3, 0), vs.length, vs.length⟩, ⟨some (4, 0), vs.length, vs.length⟩, true, ()), [recB x, recB x, i64B vs, i64B ls, i64B ms])) vs.length
    (fun i z G => z = ((i : Int), ()) ∧ G = [recB x, recB x, i64B vs, i64B ls, i64B ms, Z] ∧ ∀ j (h : j < i) (h0 : j < vs.length) (h1 : j < ls.length) (h2 : j < ms.length), ls[j] ≤ vs[j] ∧ vs[j] ≤ ms[j])
    (fun w _ => w = if inAll vs ls ms then .inl () else .inr (false, ()))
    (by
      rintro i _ _ hi ⟨rfl, rfl, hj⟩
      have hat : ∀ c, Sl.at 1 ⟨some (c, 0), vs.length, vs.length⟩ (i : Int) = some (c, i) := fun c => by rw [at_of (by omega) (by show (i : Int) < (vs.length : Int); omega), Int.toNat_natCast, Nat.mul_one, Nat.zero_add]
      have g1 : rdI .i64 [recB x, recB x, i64B vs, i64B ls, i64B ms, Z] 2 i = some vs[i] := rdI_of (H := [recB x, recB x, i64B vs, i64B ls, i64B ms, Z]) (b := 2) rfl (by simp [hi])
      have g2 : rdI .i64 [recB x, recB x, i64B vs, i64B ls, i64B ms, Z] 3 i = some (ls[i]'(by omega)) := rdI_of (H := [recB x, recB x, i64B vs, i64B ls, i64B ms, Z]) (b := 3) rfl (by simp [hl, hi])
      have g3 : rdI .i64 [recB x, recB x, i64B vs, i64B ls, i64B ms, Z] 4 i = some (ms[i]'(by omega)) := rdI_of (H := [recB x, recB x, i64B vs, i64B ls, i64B ms, Z]) (b := 4) rfl (by simp [hm, hi])
      have hno : ∀ (h : ¬ (ls[i]'(by omega) ≤ vs[i] ∧ vs[i] ≤ ms[i]'(by omega))), inAll vs ls ms = false := fun h => by
        cases hb : inAll vs ls ms with
        | false => rfl
        | true => exact absurd (hiff.1 hb i hi (by omega) (by omega)) h
      by_cases c1 : vs[i] < (ls[i]'(by omega))
      · refine .inr ⟨.inr (false, ()), [recB x, recB x, i64B vs, i64B ls, i64B ms, Z], ?_, by rw [hno (by omega)]; rfl⟩
        unfold ref07_Check.s1
        simp only [decide_eq_true (show (i : Int) < (vs.length : Int) by omega), cond_t, hat, bind_some, g1, g2, decide_eq_true c1]
      · by_cases c2 : (ms[i]'(by omega)) < vs[i]
        · refine .inr ⟨.inr (false, ()), [recB x, recB x, i64B vs, i64B ls, i64B ms, Z], ?_, by rw [hno (by omega)]; rfl⟩
          unfold ref07_Check.s1
          simp only [decide_eq_true (show (i : Int) < (vs.length : Int) by omega), cond_t, hat, bind_some, g1, g2, g3, decide_eq_false c1, cond_f, decide_eq_true c2]
        · refine .inl ⟨_, [recB x, recB x, i64B vs, i64B ls, i64B ms, Z], ?_, rfl, rfl, fun j h h0 h1 h2 => ?_⟩
          · unfold ref07_Check.s1
            simp only [decide_eq_true (show (i : Int) < (vs.length : Int) by omega), cond_t, hat, bind_some, g1, g2, g3, decide_eq_false c1, cond_f, decide_eq_false c2, wrap_succ (show i < 9223372036854775807 by omega)]
          · by_cases e : j = i
            · subst e; omega
            · exact hj j (by omega) h0 h1 h2)
    (by
      rintro _ _ ⟨rfl, rfl, hj⟩
      refine ⟨.inl (), [recB x, recB x, i64B vs, i64B ls, i64B ms, Z], ?_, by rw [hiff.2 fun j h h1 h2 => hj j h h h1 h2]; rfl⟩
      unfold ref07_Check.s1
      simp only [decide_eq_false (show ¬ (vs.length : Int) < (vs.length : Int) by omega), cond_f])
    (y := (((0 : Nat) : Int), ())) (H := [recB x, recB x, i64B vs, i64B ls, i64B ms, Z]) ⟨rfl, rfl, fun j h => absurd h (Nat.not_lt_zero _)⟩
  have l1' : loopW (ref07_Check.s1 ((⟨some (2, 0), vs.length, vs.length⟩, ⟨some (3, 0), vs.length, vs.length⟩, ⟨some (4, 0), vs.length, vs.length⟩, true, ()), [recB x, recB x, i64B vs, i64B ls, i64B ms])) (0, ()) [recB x, recB x, i64B vs, i64B ls, i64B ms, Z] = some (w, G) := l1
  simp only [q1, r1, bind_some, ex, hrow, Bool.not_true, cond_f, r2, r3, hof, r4, if_true, l1']
  cases hb : (decide (y.1 = x.1) && (decide (y.2.1 = x.2.1) && (decide (y.2.2.1 = x.2.2.1) && (decide (y.2.2.2.1 = x.2.2.2.1) && (decide (y.2.2.2.2.1 = x.2.2.2.2.1) && (decide (y.2.2.2.2.2.1 = x.2.2.2.2.2.1) && true)))))) with
  | false => rfl
  | true =>
    rw [lw]
    cases inAll vs ls ms <;> rfl

theorem dd (a b : Int) : decide (a = b) = decide (b = a) := by
  by_cases h : a = b
  · rw [decide_eq_true h, decide_eq_true h.symm]
  · rw [decide_eq_false h, decide_eq_false (fun e => h e.symm)]
theorem ds (a : Int) : decide (a = a) = true := decide_eq_true rfl

theorem ref07_check_eq (x : RecT) : ref07_Check x = some (chkR x, ()) := by
  obtain ⟨k, a, b, c, d, e, u⟩ := x
  unfold chkR
  simp only
  by_cases h1 : k = 1
  · subst h1; rw [check_of (vs := [a, b, c]) (ls := [1, 0, 0]) (ms := [15, 1023, 511]) rfl rfl rfl rfl (by simp)]
    rw [if_pos rfl, Bool.and_comm]; simp [dd 0]
  rw [if_neg h1]
  by_cases h2 : k = 2
  · subst h2; rw [check_of (vs := [a, b]) (ls := [1, 0]) (ms := [15, 1023]) rfl rfl rfl rfl (by simp)]
    rw [if_pos rfl, Bool.and_comm]; simp [dd 0]
  rw [if_neg h2]
  by_cases h3 : k = 3
  · subst h3; rw [check_of (vs := [c, d]) (ls := [0, 0]) (ms := [511, 511]) rfl rfl rfl rfl (by simp)]
    rw [if_pos rfl, Bool.and_comm]; simp [dd 0]
  rw [if_neg h3]
  by_cases h4 : k = 4
  · subst h4; rw [check_of (vs := [a, e]) (ls := [1, 1]) (ms := [15, 1024]) rfl rfl rfl rfl (by simp)]
    rw [if_pos rfl, Bool.and_comm]; simp [dd 0]
  rw [if_neg h4]
  by_cases h5 : k = 5
  · subst h5; rw [check_of (vs := [a]) (ls := [1]) (ms := [15]) rfl rfl rfl rfl (by simp)]
    rw [if_pos (.inl rfl), Bool.and_comm]; simp [dd 0]
  by_cases h7 : k = 7
  · subst h7; rw [check_of (vs := [a]) (ls := [1]) (ms := [15]) rfl rfl rfl rfl (by simp)]
    rw [if_pos (.inr rfl), Bool.and_comm]; simp [dd 0]
  rw [if_neg (by simp [h5, h7])]
  by_cases h6 : k = 6
  · subst h6; rw [check_of (vs := [a, d]) (ls := [1, 1]) (ms := [15, 15]) rfl rfl rfl rfl (by simp)]
    rw [if_pos rfl, Bool.and_comm]; simp [dd 0]
  rw [if_neg h6]
  by_cases h8 : k = 8
  · subst h8; rw [check_of (vs := [c]) (ls := [0]) (ms := [31]) rfl rfl rfl rfl (by simp)]
    rw [if_pos rfl, Bool.and_comm]; simp [dd 0]
  rw [if_neg h8]
  by_cases h9 : k = 9
  · subst h9; rw [check_of (vs := [c, e]) (ls := [0, 0]) (ms := [31, 1073741824]) rfl rfl rfl rfl (by simp)]
    rw [if_pos rfl, Bool.and_comm]; simp [dd 0]
  rw [if_neg h9]
  have hr : ∃ R, ref07_row (k, a, b, c, d, e, u) [recB (k, a, b, c, d, e, u)] = some ((⟨none, 0, 0⟩, ⟨none, 0, 0⟩, ⟨none, 0, 0⟩, false, ()), R) := by
    have r1' : rdI .i64 ([recB (k, a, b, c, d, e, u)] ++ [recB (k, a, b, c, d, e, u)]) [recB (k, a, b, c, d, e, u)].length 0 = some k := rfl
    have q2 : [recB (k, a, b, c, d, e, u)] ++ [Blk.cells [.int .i64 k, .int .i64 a, .int .i64 b, .int .i64 c, .int .i64 d, .int .i64 e] .exact] = [recB (k, a, b, c, d, e, u)] ++ [recB (k, a, b, c, d, e, u)] := rfl
    refine ⟨[recB (k, a, b, c, d, e, u)] ++ [recB (k, a, b, c, d, e, u)], ?_⟩
    unfold ref07_row
    simp only [q2, bind_some, r1', decide_eq_false h1, decide_eq_false h2, decide_eq_false h3, decide_eq_false h4, decide_eq_false h5, decide_eq_false h6, decide_eq_false h7, decide_eq_false h8, decide_eq_false h9, cond_f]
  obtain ⟨R, hr⟩ := hr
  unfold ref07_Check ref07_Check.on
  have q1 : ([] : Heap) ++ [Blk.cells [.int .i64 k, .int .i64 a, .int .i64 b, .int .i64 c, .int .i64 d, .int .i64 e] .exact] = [recB (k, a, b, c, d, e, u)] := rfl
  have r1 : @Eq (Option RecT) (rd [recB (k, a, b, c, d, e, u)] (.agg [.int .i64, .int .i64, .int .i64, .int .i64, .int .i64, .int .i64]) ([] : Heap).length 0) (some (k, a, b, c, d, e, u)) := rfl
  have hr' : ref07_row (k, a, b, c, d, e, ()) [recB (k, a, b, c, d, e, u)] = some ((⟨none, 0, 0⟩, ⟨none, 0, 0⟩, ⟨none, 0, 0⟩, false, ()), R) := hr
  simp only [q1, r1, bind_some, hr', Bool.not_false, cond_t]

/-! The program's. -/
def ptrB (l : List Nat) : Blk := .cells (l.map fun o => C.ptr (some (0, o))) .exact
def zeros (vs : List Int) : List Int := vs.map fun _ => 0
theorem check_loop {x : RecT} {l : List Nat} {vs ms : List Int} (hl : l.length = vs.length) (hm : ms.length = vs.length) (hv : vs.length ≤ 3) (hf : ∀ i (h : i < vs.length), rdI .i64 [recB x] 0 (l[i]'(by omega)) = some vs[i]) (G0 : Heap) :
    loopW (rec_Check.s1 ((⟨some (1, 0), vs.length, vs.length⟩, ⟨some (2, 0), vs.length, vs.length⟩, ()), G0)) (0, ()) [recB x, ptrB l, i64B ms] = some (if inAll vs (zeros vs) ms then .inl () else .inr (false, ()), [recB x, ptrB l, i64B ms]) := by
  have hz : (zeros vs).length = vs.length := by simp [zeros]
  have hiff := inAll_iff hz hm
  obtain ⟨w, G, l1, rfl, rfl⟩ := loop_rise (step := rec_Check.s1 ((⟨some (1, 0), vs.length, vs.length⟩, ⟨some (2, 0), vs.length, vs.length⟩, ()), G0)) vs.length
    (fun i z G => z = ((i : Int), ()) ∧ G = [recB x, ptrB l, i64B ms] ∧ ∀ j (h : j < i) (h0 : j < vs.length) (h2 : j < ms.length), 0 ≤ vs[j] ∧ vs[j] ≤ ms[j])
    (fun w G => w = (if inAll vs (zeros vs) ms then .inl () else .inr (false, ())) ∧ G = [recB x, ptrB l, i64B ms])
    (by
      rintro i _ _ hi ⟨rfl, rfl, hj⟩
      have hat : ∀ c, Sl.at 1 ⟨some (c, 0), vs.length, vs.length⟩ (i : Int) = some (c, i) := fun c => by rw [at_of (by omega) (by show (i : Int) < (vs.length : Int); omega), Int.toNat_natCast, Nat.mul_one, Nat.zero_add]
      have g1 : rdP [recB x, ptrB l, i64B ms] 1 i = some (some (0, l[i]'(by omega))) := rdP_of (H := [recB x, ptrB l, i64B ms]) (b := 1) rfl (by simp [hl, hi])
      have g2 : rdI .i64 [recB x, ptrB l, i64B ms] 0 (l[i]'(by omega)) = some vs[i] := hf i hi
      have g3 : rdI .i64 [recB x, ptrB l, i64B ms] 2 i = some (ms[i]'(by omega)) := rdI_of (H := [recB x, ptrB l, i64B ms]) (b := 2) rfl (by simp [hm, hi])
      have hin : rec_in vs[i] 0 (ms[i]'(by omega)) = some (inB vs[i] 0 (ms[i]'(by omega)), ()) := by
        unfold rec_in rec_in.on inB
        by_cases c1 : (0 : Int) ≤ vs[i]
        · rw [decide_eq_true c1, cond_t]; simp [c1]
        · rw [decide_eq_false c1, cond_f]; simp [c1]
      by_cases c : 0 ≤ vs[i] ∧ vs[i] ≤ ms[i]'(by omega)
      · refine .inl ⟨_, [recB x, ptrB l, i64B ms], ?_, rfl, rfl, fun j h h0 h2 => ?_⟩
        · unfold rec_Check.s1
          simp only [decide_eq_true (show (i : Int) < (vs.length : Int) by omega), cond_t, hat, bind_some, g1, g2, g3, hin, inB, decide_eq_true c, Bool.not_true, cond_f, wrap_succ (show i < 9223372036854775807 by omega)]
        · by_cases e : j = i
          · subst e; exact c
          · exact hj j (by omega) h0 h2
      · have hno : inAll vs (zeros vs) ms = false := by
          cases hb : inAll vs (zeros vs) ms with
          | false => rfl
          | true =>
            have := hiff.1 hb i hi (by omega) (by omega)
            simp only [zeros, List.getElem_map] at this
            exact absurd this c
        refine .inr ⟨.inr (false, ()), [recB x, ptrB l, i64B ms], ?_, by rw [hno]; rfl, rfl⟩
        unfold rec_Check.s1
        simp only [decide_eq_true (show (i : Int) < (vs.length : Int) by omega), cond_t, hat, bind_some, g1, g2, g3, hin, inB, decide_eq_false c, Bool.not_false])
    (by
      rintro _ _ ⟨rfl, rfl, hj⟩
      refine ⟨.inl (), [recB x, ptrB l, i64B ms], ?_, by rw [hiff.2 fun j h h1 h2 => by simpa [zeros] using hj j h h h2]; rfl, rfl⟩
      unfold rec_Check.s1
      simp only [decide_eq_false (show ¬ (vs.length : Int) < (vs.length : Int) by omega), cond_f])
    (y := (((0 : Nat) : Int), ())) (H := [recB x, ptrB l, i64B ms]) ⟨rfl, rfl, fun j h => absurd h (Nat.not_lt_zero _)⟩
  exact l1

theorem check2_of {x y : RecT} {l : List Nat} {vs ms : List Int} (hl : l.length = vs.length) (hm : ms.length = vs.length) (hv : vs.length ≤ 3) (hv0 : 0 < vs.length) (hf : ∀ i (h : i < vs.length), rdI .i64 [recB x] 0 (l[i]'(by omega)) = some vs[i])
    (hr : rec_fields (some (0, 0)) [recB x] = some ((⟨some (1, 0), vs.length, vs.length⟩, ⟨some (2, 0), vs.length, vs.length⟩, ()), [recB x, ptrB l, i64B ms]))
    (hy : loopW (rec_Check.s2 ((⟨some (1, 0), vs.length, vs.length⟩, ⟨some (2, 0), vs.length, vs.length⟩, ()), [recB x, ptrB l, i64B ms])) (0, ()) [recB x, ptrB l, i64B ms] = some ((), [recB y, ptrB l, i64B ms])) (hy1 : y.1 = x.1) :
    rec_Check x = some (inAll vs (zeros vs) ms && ((decide (8 ≤ x.1 ∨ x.1 = 3 ∨ 1 ≤ x.2.1) && !decide (x.1 = 4 ∧ x.2.2.2.2.2.1 < 1) && !decide (x.1 = 6 ∧ x.2.2.2.2.1 < 1)) && (decide (y.2.1 = 0) && (decide (y.2.2.1 = 0) && (decide (y.2.2.2.1 = 0) && (decide (y.2.2.2.2.1 = 0) && (decide (y.2.2.2.2.2.1 = 0) && true)))))), ()) := by
  unfold rec_Check rec_Check.on
  have q1 : ([] : Heap) ++ [Blk.cells [.int .i64 x.1, .int .i64 x.2.1, .int .i64 x.2.2.1, .int .i64 x.2.2.2.1, .int .i64 x.2.2.2.2.1, .int .i64 x.2.2.2.2.2.1] .exact] = [recB x] := rfl
  have hr' : rec_fields (some (([] : Heap).length, 0)) [recB x] = some ((⟨some (1, 0), vs.length, vs.length⟩, ⟨some (2, 0), vs.length, vs.length⟩, ()), [recB x, ptrB l, i64B ms]) := hr
  have c0 : rdI .i64 [recB x, ptrB l, i64B ms] 0 0 = some x.1 := rfl
  have c1 : rdI .i64 [recB x, ptrB l, i64B ms] 0 1 = some x.2.1 := rfl
  have c4 : rdI .i64 [recB x, ptrB l, i64B ms] 0 4 = some x.2.2.2.2.1 := rfl
  have c5 : rdI .i64 [recB x, ptrB l, i64B ms] 0 5 = some x.2.2.2.2.2.1 := rfl
  have d0 : rdI .i64 [recB y, ptrB l, i64B ms] 0 0 = some y.1 := rfl
  have d1 : @Eq (Option RecT) (rd [recB y, ptrB l, i64B ms] (.agg [.int .i64, .int .i64, .int .i64, .int .i64, .int .i64, .int .i64]) 0 0) (some y) := rfl
  simp only [q1, hr', bind_some, check_loop hl hm hv hf]
  cases inAll vs (zeros vs) ms with
  | false => rfl
  | true =>
    simp only [List.length_nil, if_true, Sum.elim_inl, c0, c1, c4, c5, bind_some, Option.isNone_some, cond_f]
    have fin : (loopW (rec_Check.s2 ((⟨some (1, 0), vs.length, vs.length⟩, ⟨some (2, 0), vs.length, vs.length⟩, ()), [recB x, ptrB l, i64B ms])) (0, ()) [recB x, ptrB l, i64B ms]) = some ((), [recB y, ptrB l, i64B ms]) := hy
    by_cases e8 : 8 ≤ x.1
    · have n4 : ¬ x.1 = 4 := by omega
      have n6 : ¬ x.1 = 6 := by omega
      simp [c0, c1, c4, c5, hy1, e8, n4, n6, fin, d0, d1, cond_t, cond_f, bind_some]
    · by_cases e3 : x.1 = 3
      · have n4 : ¬ x.1 = 4 := by omega
        have n6 : ¬ x.1 = 6 := by omega
        simp [c0, c1, c4, c5, hy1, e8, e3, n4, n6, fin, d0, d1, cond_t, cond_f, bind_some]
      · by_cases e1 : 1 ≤ x.2.1
        · by_cases e4 : x.1 = 4
          · have n6 : ¬ x.1 = 6 := by omega
            by_cases e5 : x.2.2.2.2.2.1 < 1
            · simp [c0, c1, c4, c5, hy1, e8, e3, e1, e4, e5, cond_t, cond_f, bind_some]
            · simp [c0, c1, c4, c5, hy1, e8, e3, e1, e4, e5, n6, fin, d0, d1, cond_t, cond_f, bind_some]
          · by_cases e6 : x.1 = 6
            · by_cases e5 : x.2.2.2.2.1 < 1
              · simp [c0, c1, c4, c5, hy1, e8, e3, e1, e4, e5, e6, cond_t, cond_f, bind_some]
              · simp [c0, c1, c4, c5, hy1, e8, e3, e1, e4, e5, e6, fin, d0, d1, cond_t, cond_f, bind_some]
            · simp [c0, c1, c4, c5, hy1, e8, e3, e1, e4, e6, fin, d0, d1, cond_t, cond_f, bind_some]
        · simp [c0, c1, c4, c5, hy1, e8, e3, e1, cond_t, cond_f, bind_some]

theorem inAll_low {vs ms : List Int} {a : Int} {m : Int} : inAll (a :: vs) (zeros (a :: vs)) (m :: ms) = (inB a 0 m && inAll vs (zeros vs) ms) := rfl
set_option maxHeartbeats 1000000 in
theorem rec_check_eq (x : RecT) : rec_Check x = some (chkR x, ()) := by
  obtain ⟨k, a, b, c, d, e, u⟩ := x
  unfold chkR
  simp only
  by_cases h1 : k = 1
  · subst h1
    rw [check2_of (x := (1, a, b, c, d, e, u)) (y := (1, 0, 0, 0, d, e, u)) (l := [1, 2, 3]) (vs := [a, b, c]) (ms := [15, 1023, 511]) rfl rfl (by simp) (by simp) (fun i hi => by match i, hi with | 0, _ => rfl | 1, _ => rfl | 2, _ => rfl) rfl (loopW_eq (n := 4) rfl) rfl]
    simp [inAll, inB, zeros]
    by_cases e1 : 1 ≤ a
    · have e0 : 0 ≤ a := by omega
      simp [e1, e0, Bool.and_assoc]
    · simp [e1]
  rw [if_neg h1]
  by_cases h2 : k = 2
  · subst h2
    rw [check2_of (x := (2, a, b, c, d, e, u)) (y := (2, 0, 0, c, d, e, u)) (l := [1, 2]) (vs := [a, b]) (ms := [15, 1023]) rfl rfl (by simp) (by simp) (fun i hi => by match i, hi with | 0, _ => rfl | 1, _ => rfl) rfl (loopW_eq (n := 4) rfl) rfl]
    simp [inAll, inB, zeros]
    by_cases e1 : 1 ≤ a
    · have e0 : 0 ≤ a := by omega
      simp [e1, e0, Bool.and_assoc]
    · simp [e1]
  rw [if_neg h2]
  by_cases h3 : k = 3
  · subst h3
    rw [check2_of (x := (3, a, b, c, d, e, u)) (y := (3, a, b, 0, 0, e, u)) (l := [3, 4]) (vs := [c, d]) (ms := [511, 511]) rfl rfl (by simp) (by simp) (fun i hi => by match i, hi with | 0, _ => rfl | 1, _ => rfl) rfl (loopW_eq (n := 4) rfl) rfl]
    simp [inAll, inB, zeros]
  rw [if_neg h3]
  by_cases h4 : k = 4
  · subst h4
    rw [check2_of (x := (4, a, b, c, d, e, u)) (y := (4, 0, b, c, d, 0, u)) (l := [1, 5]) (vs := [a, e]) (ms := [15, 1024]) rfl rfl (by simp) (by simp) (fun i hi => by match i, hi with | 0, _ => rfl | 1, _ => rfl) rfl (loopW_eq (n := 4) rfl) rfl]
    simp [inAll, inB, zeros]
    by_cases e1 : 1 ≤ a
    · have e0 : 0 ≤ a := by omega
      by_cases e2 : 1 ≤ e
      · have e3 : 0 ≤ e := by omega
        have e4 : ¬ e < 1 := by omega
        simp [e1, e0, e2, e3, e4, Bool.and_assoc]
      · have e4 : e < 1 := by omega
        simp [e2, e4]
    · simp [e1]
  rw [if_neg h4]
  by_cases h5 : k = 5
  · subst h5
    rw [check2_of (x := (5, a, b, c, d, e, u)) (y := (5, 0, b, c, d, e, u)) (l := [1]) (vs := [a]) (ms := [15]) rfl rfl (by simp) (by simp) (fun i hi => by match i, hi with | 0, _ => rfl) rfl (loopW_eq (n := 4) rfl) rfl]
    simp [inAll, inB, zeros]
    by_cases e1 : 1 ≤ a
    · have e0 : 0 ≤ a := by omega
      simp [e1, e0, Bool.and_assoc]
    · simp [e1]
  by_cases h7 : k = 7
  · subst h7
    rw [check2_of (x := (7, a, b, c, d, e, u)) (y := (7, 0, b, c, d, e, u)) (l := [1]) (vs := [a]) (ms := [15]) rfl rfl (by simp) (by simp) (fun i hi => by match i, hi with | 0, _ => rfl) rfl (loopW_eq (n := 4) rfl) rfl]
    simp [inAll, inB, zeros]
    by_cases e1 : 1 ≤ a
    · have e0 : 0 ≤ a := by omega
      simp [e1, e0, Bool.and_assoc]
    · simp [e1]
  rw [if_neg (by simp [h5, h7])]
  by_cases h6 : k = 6
  · subst h6
    rw [check2_of (x := (6, a, b, c, d, e, u)) (y := (6, 0, b, c, 0, e, u)) (l := [1, 4]) (vs := [a, d]) (ms := [15, 15]) rfl rfl (by simp) (by simp) (fun i hi => by match i, hi with | 0, _ => rfl | 1, _ => rfl) rfl (loopW_eq (n := 4) rfl) rfl]
    simp [inAll, inB, zeros]
    by_cases e1 : 1 ≤ a
    · have e0 : 0 ≤ a := by omega
      by_cases e2 : 1 ≤ d
      · have e3 : 0 ≤ d := by omega
        have e4 : ¬ d < 1 := by omega
        simp [e1, e0, e2, e3, e4, Bool.and_assoc]
      · have e4 : d < 1 := by omega
        simp [e2, e4]
    · simp [e1]
  rw [if_neg h6]
  by_cases h8 : k = 8
  · subst h8
    rw [check2_of (x := (8, a, b, c, d, e, u)) (y := (8, a, b, 0, d, e, u)) (l := [3]) (vs := [c]) (ms := [31]) rfl rfl (by simp) (by simp) (fun i hi => by match i, hi with | 0, _ => rfl) rfl (loopW_eq (n := 4) rfl) rfl]
    simp [inAll, inB, zeros]
  rw [if_neg h8]
  by_cases h9 : k = 9
  · subst h9
    rw [check2_of (x := (9, a, b, c, d, e, u)) (y := (9, a, b, 0, d, 0, u)) (l := [3, 5]) (vs := [c, e]) (ms := [31, 1073741824]) rfl rfl (by simp) (by simp) (fun i hi => by match i, hi with | 0, _ => rfl | 1, _ => rfl) rfl (loopW_eq (n := 4) rfl) rfl]
    simp [inAll, inB, zeros]
  rw [if_neg h9]
  have hr : rec_fields (some (0, 0)) [recB (k, a, b, c, d, e, u)] = some ((⟨none, 0, 0⟩, ⟨none, 0, 0⟩, ()), [recB (k, a, b, c, d, e, u)]) := by
    have r1' : rdI .i64 [recB (k, a, b, c, d, e, u)] 0 0 = some k := rfl
    unfold rec_fields
    simp only [List.length_nil, bind_some, r1', decide_eq_false h1, decide_eq_false h2, decide_eq_false h3, decide_eq_false h4, decide_eq_false h5, decide_eq_false h6, decide_eq_false h7, decide_eq_false h8, decide_eq_false h9, cond_f]
  unfold rec_Check rec_Check.on
  have q1 : ([] : Heap) ++ [Blk.cells [.int .i64 k, .int .i64 a, .int .i64 b, .int .i64 c, .int .i64 d, .int .i64 e] .exact] = [recB (k, a, b, c, d, e, u)] := rfl
  have l1 : loopW (rec_Check.s1 ((⟨none, 0, 0⟩, ⟨none, 0, 0⟩, ()), [recB (k, a, b, c, d, e, u)])) (0, ()) [recB (k, a, b, c, d, e, u)] = some (.inl (), [recB (k, a, b, c, d, e, u)]) := loopW_eq (n := 1) rfl
  have c0 : rdI .i64 [recB (k, a, b, c, d, e, u)] 0 0 = some k := rfl
  have c1 : rdI .i64 [recB (k, a, b, c, d, e, u)] 0 1 = some a := rfl
  simp only [q1, hr, bind_some, l1, Sum.elim_inl, List.length_nil, c0, c1]
  by_cases e8 : 8 ≤ k
  · simp [e8, cond_t, bind_some]
  · simp [e8, h3, cond_f, bind_some]
end Ev
