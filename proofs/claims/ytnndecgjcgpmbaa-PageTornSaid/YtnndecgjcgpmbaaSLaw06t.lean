/- PageTorn in plain Lean: a burst of up to four bytes is always found. -/
import Derived.Test.YtnndecgjcgpmbaaSLaw06
namespace Ev
open Go (IntKind)

/-- What the check of a whole page comes to. -/
theorem whole_run {a b : Bytes} (h : whole a b = true) : crun 4294967295 (nats (a ++ b)) = cbits 32 4294967295 := by
  obtain ⟨_, _, _, _, h5, h6⟩ := of_decide_eq_true h
  have e : a ++ b = (dataOf (a.take (longOf b)) a.length ++ rowOf (tagOf b) (a.take (longOf b)).length) ++ leB 4 (crcMore 0 (dataOf (a.take (longOf b)) a.length ++ rowOf (tagOf b) (a.take (longOf b)).length)) := by
    rw [List.append_assoc]
    congr 1
    · exact h5.symm
    · exact h6.symm
  rw [e]
  generalize (dataOf (a.take (longOf b)) a.length ++ rowOf (tagOf b) (a.take (longOf b)).length) = m
  rw [nats_append, crun_append]
  have hc : crun 4294967295 (nats m) < 4294967296 := crun_lt (by decide) nats_lt
  have hw : crcMore 0 m < 4294967296 := crcMore_lt (by decide)
  have hn : ∀ w, nats (leB 4 w) = [w % 256, w / 256 % 256, w / 65536 % 256, w / 16777216 % 256] := by
    intro w
    have e2 : w / 256 / 256 = w / 65536 := by omega
    have e3 : w / 256 / 256 / 256 = w / 16777216 := by omega
    simp [nats, leB, e2, e3]
    omega
  rw [hn, crun_le hc _ hw]
  unfold crcMore
  rw [Nat.xor_zero, ← Nat.xor_assoc, Nat.xor_self, Nat.zero_xor]

def flip (k : Nat) (x : UInt8) (s : Bytes) (i : Nat) : Bytes := (List.range s.length).map fun j => if k ≤ j ∧ j < k + i then (s[j]?.getD 0) ^^^ x else s[j]?.getD 0
theorem flip_length (k : Nat) (x : UInt8) (s : Bytes) (i : Nat) : (flip k x s i).length = s.length := by simp [flip]
theorem flip_get {k : Nat} {x : UInt8} {s : Bytes} {i j : Nat} (hj : j < s.length) : (flip k x s i)[j]? = some (if k ≤ j ∧ j < k + i then s[j] ^^^ x else s[j]) := by
  unfold flip
  rw [List.getElem?_map, List.getElem?_range hj]
  simp [hj]
theorem flip_zero (k : Nat) (x : UInt8) (s : Bytes) : flip k x s 0 = s := by
  apply List.ext_getElem?
  intro j
  by_cases hj : j < s.length
  · rw [flip_get hj, if_neg (by omega), List.getElem?_eq_getElem hj]
  · rw [List.getElem?_eq_none (by rw [flip_length]; omega), List.getElem?_eq_none (by omega)]
theorem flip_succ {k : Nat} {x : UInt8} {s : Bytes} {i : Nat} (hi : k + i < s.length) : (flip k x s i).set (k + i) (s[k + i] ^^^ x) = flip k x s (i + 1) := by
  apply List.ext_getElem?
  intro j
  by_cases hj : j < s.length
  · rw [List.getElem?_set, flip_get hj]
    by_cases he : k + i = j
    · subst he
      rw [if_pos rfl, if_pos (by rw [flip_length]; exact hj), flip_get hj, if_pos (by omega)]
    · rw [if_neg he, flip_get hj]
      by_cases h : k ≤ j ∧ j < k + i
      · rw [if_pos h, if_pos (by omega)]
      · rw [if_neg h, if_neg (by omega)]
  · rw [List.getElem?_eq_none (by simp [flip_length]; omega), List.getElem?_eq_none (by rw [flip_length]; omega)]

theorem crun_zeros : ∀ n, crun 0 (List.replicate n 0) = 0
  | 0 => rfl
  | n + 1 => by rw [List.replicate_succ]; show crun (cbyte 0 0) _ = 0; rw [show cbyte 0 0 = 0 from by decide]; exact crun_zeros n

theorem flip_diff {k n : Nat} {x : UInt8} {s : Bytes} (h : k + n ≤ s.length) : List.zipWith (· ^^^ ·) (nats s) (nats (flip k x s n)) = List.replicate k 0 ++ (List.replicate n x.toNat ++ List.replicate (s.length - k - n) 0) := by
  apply List.ext_getElem?
  intro j
  rw [List.getElem?_zipWith]
  unfold nats
  rw [List.getElem?_map, List.getElem?_map]
  by_cases hj : j < s.length
  · rw [flip_get hj, List.getElem?_eq_getElem hj]
    simp only [Option.map_some]
    by_cases h1 : j < k
    · rw [if_neg (by omega), List.getElem?_append_left (by simpa using h1), List.getElem?_replicate, if_pos h1, Nat.xor_self]
    · rw [List.getElem?_append_right (by simp; omega), List.length_replicate]
      by_cases h2 : j < k + n
      · rw [if_pos (by omega), List.getElem?_append_left (by simp; omega), List.getElem?_replicate, if_pos (by omega), UInt8.toNat_xor, ← Nat.xor_assoc, Nat.xor_self, Nat.zero_xor]
      · rw [if_neg (by omega), List.getElem?_append_right (by simp; omega), List.length_replicate, List.getElem?_replicate, if_pos (by omega), Nat.xor_self]
  · rw [List.getElem?_eq_none (show (flip k x s n).length ≤ j by rw [flip_length]; omega), List.getElem?_eq_none (show s.length ≤ j by omega), List.getElem?_eq_none (by simp; omega)]
    rfl

/-- A page of which a few bytes are others is not whole. -/
theorem flip_torn {a b a' b' : Bytes} {k n : Nat} {x : UInt8} (h : whole a b = true) (hk : k + n ≤ (a ++ b).length) (h1 : 1 ≤ n) (h4 : n ≤ 4) (hx : x ≠ 0) (he : a' ++ b' = flip k x (a ++ b) n) : whole a' b' = false := by
  cases hw : whole a' b' with
  | false => rfl
  | true =>
    exfalso
    have e1 := whole_run h
    have e2 := whole_run hw
    rw [he] at e2
    have e3 := crun_xor (nats (a ++ b)) (nats (flip k x (a ++ b) n)) 4294967295 4294967295 (by rw [nats_length, nats_length, flip_length])
    rw [e1, e2, Nat.xor_self, Nat.xor_self, flip_diff hk, crun_append, crun_zeros, crun_append] at e3
    obtain ⟨m, rfl⟩ : ∃ m, n = m + 1 := ⟨n - 1, by omega⟩
    have hx0 : x.toNat ≠ 0 := fun hh => hx (UInt8.toNat_inj.1 hh)
    have hb := burst (e := x.toNat) (List.replicate m x.toNat) x.toNat_lt hx0 (by intro y hy; rw [List.eq_of_mem_replicate hy]; exact x.toNat_lt) (by simp; omega)
    rw [← List.replicate_succ] at hb
    generalize hq : crun 0 (List.replicate (m + 1) x.toNat) = q at hb e3
    have hql : q < 4294967296 := by
      rw [← hq]
      exact crun_lt (by decide) (by intro y hy; rw [List.eq_of_mem_replicate hy]; exact x.toNat_lt)
    have hz : ∀ y ∈ List.replicate ((a ++ b).length - k - (m + 1)) 0, y < 256 := by intro y hy; rw [List.eq_of_mem_replicate hy]; decide
    exact hb (crun_inj (l := List.replicate ((a ++ b).length - k - (m + 1)) 0) hql (by decide) hz (by rw [← e3, crun_zeros]))

theorem PageTorn_true (x0 : Tg) (x1 : Bytes) (x2 : Int) (h0' : ∀ c ∈ Tup.mk [.int .i64, .int .u64, .int .i64, .int .i64, .int .i64] x0, wfC c) (_ : x1.length ≤ 140737488351232) (_ : wfC (.int .i64 x2)) : law06_PageTorn x0 x1 x2 = some (true, ()) := by
  have h0 := seq_of h0'
  unfold law06_PageTorn law06_PageTorn.on
  have hl := few_len x1
  generalize hs : x1.take 300 = s at *
  have hv := vTag_ok x0
  have hvq : 0 ≤ (vTag x0).2.1 ∧ (vTag x0).2.1 < 18446744073709551616 := h0
  have r0 : ∀ a b c d e, rdI .i64 [Blk.cells [.int .i64 a, .int .u64 b, .int .i64 c, .int .i64 d, .int .i64 e] .exact] 0 0 = some a := fun _ _ _ _ _ => rfl
  have r1 : ∀ a b c d e, rdI .u64 [Blk.cells [.int .i64 a, .int .u64 b, .int .i64 c, .int .i64 d, .int .i64 e] .exact] 0 1 = some b := fun _ _ _ _ _ => rfl
  have r3 : ∀ a b c d e, rdI .i64 [Blk.cells [.int .i64 a, .int .u64 b, .int .i64 c, .int .i64 d, .int .i64 e] .exact] 0 3 = some d := fun _ _ _ _ _ => rfl
  have r4 : ∀ a b c d e, rdI .i64 [Blk.cells [.int .i64 a, .int .u64 b, .int .i64 c, .int .i64 d, .int .i64 e] .exact] 0 4 = some e := fun _ _ _ _ _ => rfl
  have wv : ∀ A : Blk, wr [A, Blk.cells [.int .i64 0, .int .u64 0, .int .i64 0, .int .i64 0, .int .i64 0] .exact] 1 0 [.int .i64 (IntKind.wrap .i64 (1 + (bitsI .and .i64 x0.1 1))), .int .u64 x0.2.1, .int .i64 0, .int .i64 (IntKind.wrap .i64 (1 + (bitsI .and .i64 x0.2.2.2.1 7))), .int .i64 (bitsI .and .i64 x0.2.2.2.2.1 65535)] = some [A, tagB (vTag x0)] := fun _ => rfl
  have rv : ∀ (A : Blk), @Eq (Option Tg) (rd [A, tagB (vTag x0)] (.agg [.int .i64, .int .u64, .int .i64, .int .i64, .int .i64]) 1 0) (some (vTag x0)) := fun _ => rfl
  have ev : ((vTag x0).1, (vTag x0).2.1, (vTag x0).2.2.1, (vTag x0).2.2.2.1, (vTag x0).2.2.2.2.1, ()) = vTag x0 := rfl
  have f : page_Frame (vTag x0) s 300 = some (dataOf s 300, spareOf (vTag x0) s 300, 0, ()) := page_Frame_yes (size := 300) hv hvq (by decide) hl
  have hc : catS (dataOf s 300) (spareOf (vTag x0) s 300) = some (fullB (vTag x0) s) := by rw [cat_of (by rw [dataOf_length hl, spareOf_length]; decide)]; rfl
  have hfl := fullB_length (vTag x0) hl
  have hfi : ((332 : Nat) : Int) = 332 := rfl
  have dz : decide ((329 : Int) = 0) = false := rfl
  have w3 : IntKind.wrap .i64 (332 - 3) = 329 := rfl
  simp only [few_eq, hs, bind_some, List.nil_append, List.length_nil, r0, r1, r3, r4, List.cons_append, List.length_cons, Nat.zero_add, wv, rv, ev, f, awake06, Bool.not_true, cond_f, decide_true, hc, hfl, hfi, w3, dz, Nat.reduceAdd]
  have k01 : 0 ≤ Int.tmod (IntKind.wrap .i64 ((IntKind.wrap .i64 ((Int.tmod x2 329) + 332)) - 3)) 329 ∧ Int.tmod (IntKind.wrap .i64 ((IntKind.wrap .i64 ((Int.tmod x2 329) + 332)) - 3)) 329 < 329 := by
    have h1 := Int.tmod_lt_of_pos x2 (show (0 : Int) < 329 by decide)
    have h2 := Int.lt_tmod_of_pos x2 (show (0 : Int) < 329 by decide)
    have e1 : IntKind.wrap .i64 ((Int.tmod x2 329) + 332) = Int.tmod x2 329 + 332 := wrap_i64 (by omega) (by omega)
    rw [e1, wrap_i64 (by omega) (by omega)]
    exact ⟨Int.tmod_nonneg _ (by omega), Int.tmod_lt_of_pos _ (by decide)⟩
  have n01 := and_ones (k := .i64) (x := Int.fdiv x2 (2 ^ (min (Int.toNat 9) (IntKind.bits .i64)))) (m := 3) 2 (by decide) (by decide)
  have x01 := and_ones (k := .i64) (x := Int.fdiv x2 (2 ^ (min (Int.toNat 12) (IntKind.bits .i64)))) (m := 63) 6 (by decide) (by decide)
  have hk : ∃ k : Nat, k ≤ 328 ∧ Int.tmod (IntKind.wrap .i64 ((IntKind.wrap .i64 ((Int.tmod x2 329) + 332)) - 3)) 329 = (k : Int) := ⟨_, by omega, (Int.toNat_of_nonneg k01.1).symm⟩
  obtain ⟨k, k1, ek⟩ := hk
  have hn : ∃ n : Nat, 1 ≤ n ∧ n ≤ 4 ∧ IntKind.wrap .i64 (1 + (bitsI .and .i64 (Int.fdiv x2 (2 ^ (min (Int.toNat 9) (IntKind.bits .i64)))) 3)) = (n : Int) := by
    rw [wrap_i64 (by omega) (by omega)]
    exact ⟨_, by omega, by omega, (Int.toNat_of_nonneg (by omega)).symm⟩
  obtain ⟨n, n1, n4, en⟩ := hn
  have hxx : ∃ b : UInt8, b ≠ 0 ∧ b.toNat ≤ 64 ∧ IntKind.wrap .u8 (IntKind.wrap .i64 (1 + (bitsI .and .i64 (Int.fdiv x2 (2 ^ (min (Int.toNat 12) (IntKind.bits .i64)))) 63))) = (b.toNat : Int) := by
    generalize bitsI .and .i64 (Int.fdiv x2 (2 ^ (min (Int.toNat 12) (IntKind.bits .i64)))) 63 = q at x01
    rw [wrap_i64 (by omega) (by omega), wrap_u8]
    have : (UInt8.ofNat (1 + q).toNat).toNat = (1 + q).toNat := by
      simp; omega
    refine ⟨UInt8.ofNat (1 + q).toNat, ?_, by omega, by omega⟩
    intro hh
    rw [hh] at this
    have : (0 : UInt8).toNat = 0 := rfl
    omega
  obtain ⟨b, hb0, hb64, eb⟩ := hxx
  let A : Blk := Blk.cells [.int .i64 x0.1, .int .u64 x0.2.1, .int .i64 x0.2.2.1, .int .i64 x0.2.2.2.1, .int .i64 x0.2.2.2.2.1] .exact
  have hloop : loopW (law06_PageTorn.s1 x2 [A, tagB (vTag x0)] (fullB (vTag x0) s)) (0, ()) [A, tagB (vTag x0), .cells (cellsOf (fullB (vTag x0) s)) .loose] = some (((), [A, tagB (vTag x0), .cells (cellsOf (flip k b (fullB (vTag x0) s) n)) .loose])) := by
    refine loop_for' n (fun i => ((i : Int), ())) (fun i => [A, tagB (vTag x0), .cells (cellsOf (flip k b (fullB (vTag x0) s) i)) .loose]) rfl (by rw [flip_zero]) ?_ ?_
    · intro i hi
      unfold law06_PageTorn.s1
      have hd : decide ((i : Int) < (n : Int)) = true := decide_eq_true (by omega)
      have hki : k + i < (fullB (vTag x0) s).length := by rw [hfl]; omega
      have hat : Sl.at 1 ⟨some (2, 0), 332, 332⟩ ((k + i : Nat) : Int) = some (2, k + i) := by
        rw [at_of (by omega) (by omega), Int.toNat_natCast]; simp
      have hrd : rdI .u8 [A, tagB (vTag x0), .cells (cellsOf (flip k b (fullB (vTag x0) s) i)) .loose] 2 (k + i) = some (((fullB (vTag x0) s)[k + i].toNat : Nat) : Int) := by
        refine rdI_of (cs := cellsOf (flip k b (fullB (vTag x0) s) i)) rfl ?_
        unfold cellsOf
        rw [List.getElem?_map, flip_get hki, if_neg (by omega)]; rfl
      have hx8 : bitsI .xor .u8 (((fullB (vTag x0) s)[k + i].toNat : Nat) : Int) (b.toNat : Int) = (((fullB (vTag x0) s)[k + i] ^^^ b).toNat : Int) := by
        rw [xor8 (UInt8.toNat_lt _) (UInt8.toNat_lt _), UInt8.toNat_xor]
      have hw := wr2 A (tagB (vTag x0)) (flip k b (fullB (vTag x0) s) i) (k + i) (by rw [flip_length]; exact hki) ((fullB (vTag x0) s)[k + i] ^^^ b)
      rw [flip_succ hki] at hw
      have hsc : IntKind.wrap .i64 ((i : Int) + 1) = ((i + 1 : Nat) : Int) := wrap_succ (by omega)
      have hsk : IntKind.wrap .i64 ((k : Int) + (i : Int)) = ((k + i : Nat) : Int) := by rw [wrap_i64 (by omega) (by omega)]; omega
      simp only [hfl, hfi, w3, en, ek, eb, hsk, List.length_cons, List.length_nil, Nat.zero_add, Nat.reduceAdd, hd, cond_t, hat, bind_some, hrd, hx8, hw, hsc]
    · unfold law06_PageTorn.s1
      have hd : decide ((n : Int) < (n : Int)) = false := decide_eq_false (by omega)
      simp only [en, hd, cond_f]
  have hloop' := hloop
  simp only [A] at hloop'
  have hwh : whole (dataOf s 300) (spareOf (vTag x0) s 300) = true := by
    have hlook := look_frame (t := vTag x0) (s := s) (size := 300) hv hvq (by decide) hl
    unfold lookP at hlook
    cases hw : whole (dataOf s 300) (spareOf (vTag x0) s 300) with
    | true => rfl
    | false =>
      rw [if_neg (fun h => by rw [spare_dirty] at h; exact absurd h.2 (by decide)), hw] at hlook
      simp at hlook
  have hXl : (flip k b (fullB (vTag x0) s) n).length = 332 := by rw [flip_length, hfl]
  have h319 : (flip k b (fullB (vTag x0) s) n)[319]? ≠ some 255 := by
    have hz : (fullB (vTag x0) s)[319]? = some 0 := by
      unfold fullB
      rw [List.getElem?_append_right (by rw [dataOf_length hl]; decide), dataOf_length hl]
      unfold spareOf
      rw [List.getElem?_append_left (by rw [rowOf_length]; decide)]
      unfold rowOf
      rw [List.getElem?_append_right (by simp [leB_length])]
      simp [leB_length, zerosB]
    have hlt : 319 < (fullB (vTag x0) s).length := by rw [hfl]; decide
    rw [List.getElem?_eq_getElem hlt] at hz
    cases hz' : (fullB (vTag x0) s)[319] with
    | _ =>
      rw [flip_get hlt]
      have hz2 : (fullB (vTag x0) s)[319] = 0 := Option.some.inj hz
      rw [hz2]
      split
      · intro hh
        have hh := Option.some.inj hh
        rw [UInt8.zero_xor] at hh
        rw [hh] at hb64
        exact absurd hb64 (by decide)
      · intro hh
        exact absurd (Option.some.inj hh) (by decide)
  rw [ek, en] at *
  rw [hloop']
  have htorn := flip_torn (a := dataOf s 300) (b := spareOf (vTag x0) s 300) (a' := (flip k b (fullB (vTag x0) s) n).take 300) (b' := (flip k b (fullB (vTag x0) s) n).drop 300) (k := k) (n := n) (x := b) hwh (by rw [List.length_append, dataOf_length hl, spareOf_length]; omega) n1 n4 hb0 (by rw [List.take_append_drop]; rfl)
  generalize hX : flip k b (fullB (vTag x0) s) n = X at hXl htorn h319
  have l1 := look_length X hXl
  have hdirty : ¬ (cleanB (X.take 300) = true ∧ cleanB (X.drop 300) = true) := by
    rintro ⟨_, h2⟩
    apply h319
    have h319' : 319 < X.length := by omega
    have := List.all_eq_true.1 h2 X[319] (by
      rw [List.mem_iff_getElem?]
      exact ⟨19, by rw [List.getElem?_drop, List.getElem?_eq_getElem h319']⟩)
    rw [List.getElem?_eq_getElem h319']
    simpa using this
  have hlook : lookP (X.take 300) (X.drop 300) = (2, tag0, [], ()) := by
    unfold lookP
    rw [if_neg hdirty, htorn]; rfl
  rw [hlook] at l1
  have wA : ∀ (A B D : Blk) (t : Tg), wr [A, B, D, Blk.cells [.int .i64 0, .int .u64 0, .int .i64 0, .int .i64 0, .int .i64 0] .exact] 3 0 [.int .i64 t.1, .int .u64 t.2.1, .int .i64 t.2.2.1, .int .i64 t.2.2.2.1, .int .i64 t.2.2.2.2.1] = some [A, B, D, tagB t] := fun _ _ _ _ => rfl
  have sA := fun tl => strOf2 A (tagB (vTag x0)) X tl hXl
  have s1 := (sA []).1; have s2 := (sA []).2.1; have s4 := fun tl => (sA tl).2.2.2.1; have s5 := fun tl => (sA tl).2.2.2.2
  simp only [A] at s4 s5
  simp only [bind_some, s1, s2, s4, s5, l1, List.cons_append, List.nil_append, List.length_cons, List.length_nil, Nat.zero_add, Nat.reduceAdd, wA, decide_true, cond_t]
end Ev
