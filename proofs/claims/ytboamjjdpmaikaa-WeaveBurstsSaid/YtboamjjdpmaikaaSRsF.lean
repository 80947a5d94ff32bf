/- Words: places that are lost, roots, solving. -/
import Derived.Test.YtboamjjdpmaikaaSRsD
namespace Ev
open Go (IntKind)

def badL (l : List Int) (long : Nat) : Prop := ∃ v ∈ l, v < 0 ∨ (long : Int) ≤ v
def lostM (l : List Int) (long : Nat) : List Int := l.map fun v => (long : Int) - 1 - v
def lostK (l : List Int) (long : Nat) : List Int := cmpN (sortI (lostM l long)) (lostM l long).length
theorem intC_snoc (l : List Int) (x : Int) : intC (l ++ [x]) = intC l ++ [.int .i64 x] := by simp [intC]
theorem lostOf_eq {H : Heap} {s : Sl} {l : List Int} (h : Row H 1 s (intC l)) (hl : l.length < 100000) {long : Nat} (hlo : long < 100000) (par : Int) : ∃ t ok G, rs_lostOf s (long : Int) par H = some ((t, ok, ()), G) ∧ Keep (fun _ => False) H G ∧ (badL l long → ok = false) ∧ (¬ badL l long → ok = decide (((lostK l long).length : Int) ≤ par) ∧ Row G 1 t (intC (lostK l long))) := by
  have hs := h.int_len
  unfold rs_lostOf
  obtain ⟨w, G, l1, lw⟩ := loop_rise (step := rs_lostOf.s1 s (long : Int)) l.length (fun i y G => ∃ t, y = (t, (i : Int), ()) ∧ t.len = i ∧ GrowN H G 1 t (intC (lostM (l.take i) long)) ∧ ∀ v ∈ l.take i, ¬ (v < 0 ∨ (long : Int) ≤ v))
    (fun w G => (∃ t, w = .inl (t, ()) ∧ GrowN H G 1 t (intC (lostM l long)) ∧ ¬ badL l long) ∨ (w = .inr (⟨none, 0, 0⟩, false, ()) ∧ Keep (fun _ => False) H G ∧ badL l long))
    (by
      rintro i _ G hi ⟨t, rfl, ht, g, hv⟩
      obtain ⟨b, o, _, a1, a2⟩ := (h.keep g.keep fun _ _ _ => id).int hi
      have hlen : decide ((i : Int) < (s.len : Int)) = true := decide_eq_true (by omega)
      by_cases c1 : l[i] < 0
      · right
        refine ⟨.inr (⟨none, 0, 0⟩, false, ()), G, ?_, .inr ⟨rfl, g.keep, l[i], List.getElem_mem hi, .inl c1⟩⟩
        unfold rs_lostOf.s1
        simp only [hlen, cond_t, a1, bind_some, a2, decide_eq_true c1]
      · by_cases c2 : (long : Int) ≤ l[i]
        · right
          refine ⟨.inr (⟨none, 0, 0⟩, false, ()), G, ?_, .inr ⟨rfl, g.keep, l[i], List.getElem_mem hi, .inr c2⟩⟩
          unfold rs_lostOf.s1
          simp only [hlen, cond_t, a1, bind_some, a2, decide_eq_false c1, cond_f, decide_eq_true c2]
        · left
          have hw : IntKind.wrap .i64 ((IntKind.wrap .i64 ((long : Int) - 1)) - l[i]) = (long : Int) - 1 - l[i] := by
            rw [wrap_i64 (n := (long : Int) - 1) (by omega) (by omega), wrap_i64 (by omega) (by omega)]
          obtain ⟨t', G2, b1, b2, b3, b4, _⟩ := g.one (bytes := 8) (new := [.int .i64 ((long : Int) - 1 - l[i])]) (by decide) rfl (by omega) (by omega)
          have htk : lostM (l.take (i + 1)) long = lostM (l.take i) long ++ [(long : Int) - 1 - l[i]] := by
            unfold lostM; rw [List.take_succ_eq_append_getElem hi, List.map_append]; rfl
          refine ⟨(t', ((i + 1 : Nat) : Int), ()), G2, ?_, t', rfl, by omega, ?_, fun v hv' => ?_⟩
          · unfold rs_lostOf.s1
            simp only [hlen, cond_t, a1, bind_some, a2, decide_eq_false c1, cond_f, decide_eq_false c2, hw, b1, b2, wrap_succ (show i < 9223372036854775807 by omega)]
          · rw [htk, intC_snoc]; exact b3
          · rw [List.take_succ_eq_append_getElem hi] at hv'
            rcases List.mem_append.1 hv' with hv' | hv'
            · exact hv v hv'
            · rw [List.mem_singleton] at hv'
              rw [hv']; omega)
    (by
      rintro _ G ⟨t, rfl, ht, g, hv⟩
      rw [List.take_length] at g hv
      refine ⟨.inl (t, ()), G, ?_, .inl ⟨t, rfl, g, fun ⟨v, h1, h2⟩ => hv v h1 h2⟩⟩
      unfold rs_lostOf.s1
      simp only [decide_eq_false (show ¬ ((l.length : Nat) : Int) < (s.len : Int) by omega), cond_f])
    (y := (⟨none, 0, 0⟩, ((0 : Nat) : Int), ())) (H := H) ⟨_, rfl, rfl, GrowN.ni (Keep.refl _ _) 1, fun v hv => by simp at hv⟩
  have l1' : loopW (rs_lostOf.s1 s (long : Int)) (⟨none, 0, 0⟩, 0, ()) H = some (w, G) := l1
  rcases lw with ⟨t, rfl, g, hb⟩ | ⟨rfl, k, hb⟩
  · have hml : (lostM l long).length = l.length := by simp [lostM]
    obtain ⟨G2, s1, s2⟩ := sort_eq g (by omega)
    have hsl : (sortI (lostM l long)).length = (lostM l long).length := List.length_mergeSort _
    obtain ⟨t', G3, c1, c2, c3⟩ := compact_eq s2 (by omega)
    rw [hsl] at c2
    refine ⟨t', decide ((t'.len : Int) ≤ par), G3, ?_, c3, fun x => absurd x hb, fun _ => ⟨?_, c2⟩⟩
    · simp only [l1', bind_some, sumL, s1, c1]
    · have hkl := c2.int_len
      rw [hkl]; rfl
  · refine ⟨⟨none, 0, 0⟩, false, G, ?_, k, fun _ => rfl, fun x => absurd hb x⟩
    simp only [l1', bind_some, sumR]

/-- The polynomial whose roots are one over those places. -/
def plF (K : List Int) : Bytes := K.foldl (fun p e => trim (pmul p [1, gp e.toNat])) [1]
theorem foldl_len (K : List Int) : ∀ p : Bytes, (K.foldl (fun p e => trim (pmul p [1, gp e.toNat])) p).length ≤ p.length + 2 * K.length := by
  induction K with
  | nil => intro p; simp
  | cons e K ih =>
    intro p
    rw [List.foldl_cons]
    refine Nat.le_trans (ih _) ?_
    have : (trim (pmul p [1, gp e.toNat])).length ≤ p.length + 2 := by
      refine Nat.le_trans tl_le_len ?_
      unfold pmul
      rw [pl_len]; exact Nat.le_refl _
    rw [List.length_cons]; omega
theorem plF_len (K : List Int) : (plF K).length ≤ 1 + 2 * K.length := foldl_len K [1]
theorem places_eq {H : Heap} {s : Sl} {K : List Int} (h : Row H 1 s (intC K)) (hl : K.length < 10000) (hk : ∀ e ∈ K, 0 ≤ e ∧ e < 255) : ∃ t G, rs_places s H = some ((t, ()), G) ∧ PAt G t (plF K) ∧ Keep (fun _ => False) H G := by
  have hs := h.int_len
  obtain ⟨u, G, l1, t, rfl, e1, e2⟩ := loop_rise (step := rs_places.s1 s) K.length (fun i y G => ∃ t, y = (t, (i : Int), ()) ∧ PAt G t (plF (K.take i)) ∧ Keep (fun _ => False) H G) (fun y G => ∃ t, y = (t, ()) ∧ PAt G t (plF K) ∧ Keep (fun _ => False) H G)
    (by
      rintro i _ G hi ⟨t, rfl, e1, e2⟩
      refine .inl ?_
      obtain ⟨b, o, _, a1, a2⟩ := (h.keep e2 fun _ _ _ => id).int hi
      obtain ⟨h0, h1⟩ := hk _ (List.getElem_mem hi)
      have hr : gf_Root K[i] = some (un (gp K[i].toNat), ()) := by
        have := gf_Root_eq K[i].toNat (by omega)
        rwa [Int.toNat_of_nonneg h0] at this
      have k1 : Keep (fun _ => False) G (G ++ [.cells [.int .u8 (un 1), .int .u8 (un (gp K[i].toNat))] .exact]) := Keep.push _ _ _
      have hd := plF_len (K.take i)
      rw [List.length_take] at hd
      obtain ⟨t', G2, f1, f2, f3⟩ := mul_eq (e1.keep k1) (two_at 1 (gp K[i].toNat)) (by show (plF (K.take i)).length + 2 < _; omega)
      have f1' : gf_Poly_Mul t ⟨some (G.length, 0), 2, 2⟩ (G ++ [Blk.cells [.int .u8 1, .int .u8 (un (gp K[i].toNat))] .exact]) = some ((t', ()), G2) := f1
      have hstep : plF (K.take (i + 1)) = trim (pmul (plF (K.take i)) [1, gp K[i].toNat]) := by
        unfold plF
        rw [List.take_succ_eq_append_getElem hi, List.foldl_append]; rfl
      refine ⟨(t', ((i + 1 : Nat) : Int), ()), G2, ?_, t', rfl, by rw [hstep]; exact f2, (e2.trans k1).trans f3⟩
      unfold rs_places.s1
      simp only [decide_eq_true (show (i : Int) < (s.len : Int) by omega), cond_t, a1, bind_some, a2, hr, f1', wrap_succ (show i < 9223372036854775807 by omega)])
    (by
      rintro _ G ⟨t, rfl, e1, e2⟩
      rw [List.take_length] at e1
      refine ⟨(t, ()), G, ?_, t, rfl, e1, e2⟩
      unfold rs_places.s1
      simp only [decide_eq_false (show ¬ ((K.length : Nat) : Int) < (s.len : Int) by omega), cond_f])
    (y := (⟨some (H.length, 0), 1, 1⟩, ((0 : Nat) : Int), ())) (H := H ++ [.cells [.int .u8 (un 1)] .exact]) ⟨_, rfl, one_at 1, Keep.push _ _ _⟩
  have l1' : loopW (rs_places.s1 s) (⟨some (H.length, 0), 1, 1⟩, 0, ()) (H ++ [Blk.cells [.int .u8 1] .exact]) = some ((t, ()), G) := l1
  refine ⟨t, G, ?_, e1, e2⟩
  unfold rs_places
  simp only [l1', bind_some]
/-- The places at which it is nought. -/
def roF (p : Bytes) (long : Nat) : List Int := ((List.range long).filter fun n => ev p (gp (255 - n)) == 0).map Int.ofNat
theorem roF_succ (p : Bytes) (n : Nat) : roF p (n + 1) = roF p n ++ (if ev p (gp (255 - n)) = 0 then [(n : Int)] else []) := by
  unfold roF
  rw [List.range_succ, List.filter_append, List.map_append]
  congr 1
  by_cases h : ev p (gp (255 - n)) = 0
  · simp [h]
  · simp [h]
theorem roF_len (p : Bytes) : ∀ n, (roF p n).length ≤ n
  | 0 => Nat.le_refl 0
  | n + 1 => by
    have := roF_len p n
    rw [roF_succ, List.length_append]
    split
    · rw [List.length_singleton]; omega
    · rw [List.length_nil]; omega
theorem roots_eq {H : Heap} {s : Sl} {p : Bytes} (h : PAt H s p) (hl : p.length < 100000) {long : Nat} (hlo : long ≤ 255) : ∃ t G, rs_roots s (long : Int) H = some ((t, ()), G) ∧ GrowN H G 1 t (intC (roF p long)) := by
  obtain ⟨u, G, l1, t, rfl, g⟩ := loop_rise (step := rs_roots.s1 s (long : Int)) long (fun i y G => ∃ t, y = (t, (i : Int), ()) ∧ GrowN H G 1 t (intC (roF p i))) (fun y G => ∃ t, y = (t, ()) ∧ GrowN H G 1 t (intC (roF p long)))
    (by
      rintro i _ G hi ⟨t, rfl, g⟩
      refine .inl ?_
      have hw : IntKind.wrap .i64 (0 - (i : Int)) = -(i : Int) := by rw [wrap_i64 (by omega) (by omega)]; omega
      have hr := gf_Root_neg i (by omega)
      have hat := at_eq (h.keep g.keep) (by omega) (gp (255 - i))
      have hlt : decide ((i : Int) < (long : Int)) = true := decide_eq_true (by omega)
      have hs := wrap_succ (show i < 9223372036854775807 by omega)
      by_cases h0 : ev p (gp (255 - i)) = 0
      · have htl := g.int_len
        have hrl := roF_len p i
        obtain ⟨t', G2, b1, b2, b3, b4, _⟩ := g.one (bytes := 8) (new := [.int .i64 (i : Int)]) (by decide) rfl (by omega) (by omega)
        refine ⟨(t', ((i + 1 : Nat) : Int), ()), G2, ?_, t', rfl, by rw [roF_succ, if_pos h0, intC_snoc]; exact b3⟩
        unfold rs_roots.s1
        simp only [hlt, cond_t, hw, hr, bind_some, hat, decide_eq_true ((un_zero _).2 h0), b1, b2, hs]
      · refine ⟨(t, ((i + 1 : Nat) : Int), ()), G, ?_, t, rfl, by rw [roF_succ, if_neg h0, List.append_nil]; exact g⟩
        unfold rs_roots.s1
        simp only [hlt, cond_t, hw, hr, bind_some, hat, decide_eq_false fun hh => h0 ((un_zero _).1 hh), cond_f, hs])
    (by
      rintro _ G ⟨t, rfl, g⟩
      refine ⟨(t, ()), G, ?_, t, rfl, g⟩
      unfold rs_roots.s1
      simp only [decide_eq_false (show ¬ ((long : Nat) : Int) < (long : Int) by omega), cond_f])
    (y := (⟨none, 0, 0⟩, ((0 : Nat) : Int), ())) (H := H) ⟨_, rfl, GrowN.ni (Keep.refl _ _) 1⟩
  have l1' : loopW (rs_roots.s1 s (long : Int)) (⟨none, 0, 0⟩, 0, ()) H = some ((t, ()), G) := l1
  refine ⟨t, G, ?_, g⟩
  unfold rs_roots
  simp only [l1', bind_some]

/-! Solving. -/
/-- What is added, of a multiple of b. -/
def sstep (x b v y : Bytes) : Bytes := trim (padd y (trim (psh (tl x - tl b) (trim (psc (gm (co x (tl x - 1)) (ginv (co b (tl b - 1)))) v)))))
def divL (b v : Bytes) : Nat → Bytes → Bytes → Bytes × Bytes
  | 0, x, y => (x, y)
  | f + 1, x, y => if tl b ≤ tl x then divL b v f (sstep x b b x) (sstep x b v y) else (x, y)
def solL (m : Nat) : Nat → Bytes → Bytes → Bytes → Bytes → Bytes × Bytes
  | 0, _, b, _, v => (b, v)
  | f + 1, a, b, u, v => if (m : Int) ≤ 2 * ((tl b : Int) - 1) then solL m f b (divL b v (tl a) a u).1 v (divL b v (tl a) a u).2 else (b, v)
theorem co_sstep (x b v y : Bytes) (i : Nat) : co (sstep x b v y) i = co y i ^^^ (if i < tl x - tl b then 0 else gm (gm (co x (tl x - 1)) (ginv (co b (tl b - 1)))) (co v (i - (tl x - tl b)))) := by
  unfold sstep
  rw [co_trim, co_padd, co_trim, co_psh]
  split
  · rfl
  · rw [co_trim, co_psc]
theorem sstep_less {x b : Bytes} (hb : 0 < tl b) (hle : tl b ≤ tl x) : tl (sstep x b b x) < tl x := by
  have hz : ∀ i, tl x - 1 ≤ i → co (sstep x b b x) i = 0 := by
    intro i hi
    rw [co_sstep, if_neg (by omega)]
    by_cases he : i = tl x - 1
    · subst he
      rw [show tl x - 1 - (tl x - tl b) = tl b - 1 by omega, gm_assoc, gm_comm (ginv _), gm_ginv (tl_ne b hb), gm_one, UInt8.xor_self]
    · rw [tl_zero x i (by omega), tl_zero b (i - (tl x - tl b)) (by omega), gm_zero]; rfl
  by_cases h : tl (sstep x b b x) ≤ tl x - 1
  · omega
  · exact absurd (hz _ (by omega)) (tl_ne _ (by omega))
theorem sstep_len (x b v y : Bytes) : (sstep x b v y).length ≤ max y.length (tl x - tl b + v.length) := by
  unfold sstep
  refine Nat.le_trans tl_le_len ?_
  unfold padd
  rw [pl_len]
  have h1 : (trim (psc (gm (co x (tl x - 1)) (ginv (co b (tl b - 1)))) v)).length ≤ v.length := by
    refine Nat.le_trans tl_le_len ?_
    unfold psc
    rw [pl_len]; exact Nat.le_refl _
  have h2 : (trim (psh (tl x - tl b) (trim (psc (gm (co x (tl x - 1)) (ginv (co b (tl b - 1)))) v)))).length ≤ tl x - tl b + v.length := by
    refine Nat.le_trans tl_le_len ?_
    unfold psh
    rw [pl_len]; omega
  omega
section
variable {H : Heap}
theorem div_iter {sa sb su sv : Sl} {b v : Bytes} {M : Nat} (hM : M < 1000) (hb : PAt H sb b) (hv : PAt H sv v) (h0 : 0 < tl b) (hbl : b.length < 1000) : ∀ (f : Nat) (sx sy : Sl) (x y : Bytes) (G : Heap), PAt G sx x → PAt G sy y → Keep (fun _ => False) H G → tl x ≤ f → x.length < 1000 → tl x + v.length ≤ M → y.length + tl b ≤ M →
    ∃ j tx ty G', iter (rs_solve.s1 (sa, sb, su, sv, ())) j (sx, sy, ()) G = some ((tx, ty, ()), G') ∧ PAt G' tx (divL b v f x y).1 ∧ PAt G' ty (divL b v f x y).2 ∧ Keep (fun _ => False) H G' := by
  intro f
  induction f with
  | zero =>
    intro sx sy x y G hx hy k hf hxl hxv hyl
    refine ⟨1, sx, sy, G, ?_, hx, hy, k⟩
    have d1 := degree_eq hx (by omega)
    have d2 := degree_eq (hb.keep k) (by omega)
    rw [iter]
    unfold rs_solve.s1
    simp only [d1, bind_some, d2, decide_eq_false (show ¬ (tl b : Int) - 1 ≤ (tl x : Int) - 1 by omega), cond_f]
    rfl
  | succ f ih =>
    intro sx sy x y G hx hy k hf hxl hxv hyl
    have d1 := degree_eq hx (by omega)
    have d2 := degree_eq (hb.keep k) (by omega)
    by_cases hle : tl b ≤ tl x
    · have htx := tl_le x
      have htb := tl_le b
      obtain ⟨bx, ox, a1, a2, _⟩ := hx.byte (i := tl x - 1) (by omega)
      obtain ⟨bb, ob, c1, c2, _⟩ := (hb.keep k).byte (i := tl b - 1) (by omega)
      have e1 : (tl x : Int) - 1 = ((tl x - 1 : Nat) : Int) := by omega
      have e2 : (tl b : Int) - 1 = ((tl b - 1 : Nat) : Int) := by omega
      have hw : IntKind.wrap .i64 (((tl x - 1 : Nat) : Int) - ((tl b - 1 : Nat) : Int)) = ((tl x - tl b : Nat) : Int) := by rw [wrap_i64 (by omega) (by omega)]; omega
      have hlen : ∀ w : Bytes, (trim (psc (gm (co x (tl x - 1)) (ginv (co b (tl b - 1)))) w)).length ≤ w.length := fun w => by
        refine Nat.le_trans tl_le_len ?_
        unfold psc
        rw [pl_len]; exact Nat.le_refl _
      have hlen2 : ∀ w : Bytes, (trim (psh (tl x - tl b) (trim (psc (gm (co x (tl x - 1)) (ginv (co b (tl b - 1)))) w)))).length ≤ tl x - tl b + w.length := fun w => by
        refine Nat.le_trans tl_le_len ?_
        unfold psh
        rw [pl_len]
        have := hlen w
        omega
      have hlb := hlen b
      have hlv := hlen v
      have hlb2 := hlen2 b
      have hlv2 := hlen2 v
      obtain ⟨t22, G22, m1, m2, m3⟩ := times_eq (hb.keep k) (by omega) (gm (co x (tl x - 1)) (ginv (co b (tl b - 1))))
      obtain ⟨t23, G23, n1, n2, n3⟩ := shift_eq m2 (n := tl x - tl b) (by omega)
      obtain ⟨t24, G24, p1, p2, p3⟩ := add_eq (hx.keep (m3.trans n3)) n2 (by omega) (by omega)
      have k24 := ((m3.trans n3).trans p3)
      obtain ⟨t25, G25, q1, q2, q3⟩ := times_eq (hv.keep (k.trans k24)) (by omega) (gm (co x (tl x - 1)) (ginv (co b (tl b - 1))))
      obtain ⟨t26, G26, r1, r2, r3⟩ := shift_eq q2 (n := tl x - tl b) (by omega)
      obtain ⟨t27, G27, s1, s2, s3⟩ := add_eq (hy.keep ((k24.trans q3).trans r3)) r2 (by omega) (by omega)
      have p2' : PAt G24 t24 (sstep x b b x) := p2
      have s2' : PAt G27 t27 (sstep x b v y) := s2
      have k27 := (q3.trans r3).trans s3
      have hless := sstep_less h0 hle
      have hxl2 : (sstep x b b x).length = tl (sstep x b b x) := (tl_trim _).symm
      have hyl2 := sstep_len x b v y
      obtain ⟨j, tx, ty, G', j1, j2, j3, j4⟩ := ih t24 t27 (sstep x b b x) (sstep x b v y) G27 (p2'.keep k27) s2' ((k.trans k24).trans k27) (by omega) (by omega) (by omega) (by omega)
      refine ⟨j + 1, tx, ty, G', ?_, ?_, ?_, j4⟩
      · rw [iter]
        have hstep : rs_solve.s1 (sa, sb, su, sv, ()) (sx, sy, ()) G = some (.inl (t24, t27, ()), G27) := by
          unfold rs_solve.s1
          simp only [d1, bind_some, d2, decide_eq_true (show (tl b : Int) - 1 ≤ (tl x : Int) - 1 by omega), cond_t]
          rw [e1, e2]
          simp only [a1, a2, bind_some, c1, c2, gf_Inv_eq, gf_Mul_eq, if_true, m1, hw, n1, p1, q1, r1, s1]
        rw [hstep]
        exact j1
      · rw [divL, if_pos hle]; exact j2
      · rw [divL, if_pos hle]; exact j3
    · refine ⟨1, sx, sy, G, ?_, by rw [divL, if_neg hle]; exact hx, by rw [divL, if_neg hle]; exact hy, k⟩
      rw [iter]
      unfold rs_solve.s1
      simp only [d1, bind_some, d2, decide_eq_false (show ¬ (tl b : Int) - 1 ≤ (tl x : Int) - 1 by omega), cond_f]
      rfl
theorem divL_ok {b v : Bytes} {M : Nat} (h0 : 0 < tl b) : ∀ (f : Nat) (x y : Bytes), tl x ≤ f → tl x + v.length ≤ M → y.length + tl b ≤ M → tl (divL b v f x y).1 < tl b ∧ tl (divL b v f x y).1 ≤ tl x ∧ (divL b v f x y).1.length ≤ x.length ∧ (divL b v f x y).2.length + tl b ≤ M
  | 0, x, y, h1, _, h3 => ⟨by show tl x < tl b; omega, Nat.le_refl _, Nat.le_refl _, h3⟩
  | f + 1, x, y, h1, h2, h3 => by
    by_cases hle : tl b ≤ tl x
    · rw [divL, if_pos hle]
      have hless := sstep_less h0 hle
      have hxl2 : (sstep x b b x).length = tl (sstep x b b x) := (tl_trim _).symm
      have hyl2 := sstep_len x b v y
      have htx := tl_le x
      obtain ⟨a1, a2, a3, a4⟩ := divL_ok (v := v) (M := M) h0 f (sstep x b b x) (sstep x b v y) (by omega) (by omega) (by omega)
      exact ⟨a1, by omega, by omega, a4⟩
    · rw [divL, if_neg hle]
      exact ⟨(by show tl x < tl b; omega), Nat.le_refl _, Nat.le_refl _, h3⟩
theorem sol_iter {m M : Nat} (hM : M < 1000) (hm : 1 ≤ m) (hm2 : m < 1000) (n l : Int) (hnl : n + l = (m : Int)) (hn : 0 ≤ n ∧ 0 ≤ l) : ∀ (f : Nat) (sa sb su sv : Sl) (a b u v : Bytes) (G : Heap), PAt G sa a → PAt G sb b → PAt G su u → PAt G sv v → Keep (fun _ => False) H G → tl b ≤ f → a.length < 1000 → b.length < 1000 → tl a + v.length ≤ M → u.length + tl b ≤ M →
    ∃ j tb tv G', iter (rs_solve.s2 n l) j (sa, sb, su, sv, ()) G = some ((tb, tv, ()), G') ∧ PAt G' tb (solL m f a b u v).1 ∧ PAt G' tv (solL m f a b u v).2 ∧ Keep (fun _ => False) H G' := by
  intro f
  induction f with
  | zero =>
    intro sa sb su sv a b u v G ha hb hu hv k hf _ hbl _ _
    refine ⟨1, sb, sv, G, ?_, hb, hv, k⟩
    have d2 := degree_eq hb (by omega)
    have hw1 : IntKind.wrap .i64 (n + l) = (m : Int) := by rw [wrap_i64 (by omega) (by omega)]; omega
    have hw2 : IntKind.wrap .i64 (2 * ((tl b : Int) - 1)) = 2 * ((tl b : Int) - 1) := wrap_i64 (by omega) (by omega)
    rw [iter]
    unfold rs_solve.s2
    simp only [d2, bind_some, hw1, hw2, decide_eq_false (show ¬ (m : Int) ≤ 2 * ((tl b : Int) - 1) by omega), cond_f]
    rfl
  | succ f ih =>
    intro sa sb su sv a b u v G ha hb hu hv k hf hal hbl hav hub
    have d2 := degree_eq hb (by omega)
    have htb := tl_le b
    have hw1 : IntKind.wrap .i64 (n + l) = (m : Int) := by rw [wrap_i64 (by omega) (by omega)]; omega
    have hw2 : IntKind.wrap .i64 (2 * ((tl b : Int) - 1)) = 2 * ((tl b : Int) - 1) := wrap_i64 (by omega) (by omega)
    by_cases hle : (m : Int) ≤ 2 * ((tl b : Int) - 1)
    · have h0 : 0 < tl b := by omega
      obtain ⟨j1, tx, ty, G1, e1, e2, e3, e4⟩ := div_iter (H := G) (sa := sa) (su := su) hM hb hv h0 hbl (tl a) sa su a u G ha hu (Keep.refl _ _) (Nat.le_refl _) hal hav hub
      obtain ⟨a1, a2, a3, a4⟩ := divL_ok (v := v) (M := M) h0 (tl a) a u (Nat.le_refl _) hav hub
      obtain ⟨j, tb, tv, G', f1, f2, f3, f4⟩ := ih sb tx sv ty b (divL b v (tl a) a u).1 v (divL b v (tl a) a u).2 G1 (hb.keep e4) e2 (hv.keep e4) e3 (k.trans e4) (by omega) hbl (by omega) (by omega) (by omega)
      refine ⟨j + 1, tb, tv, G', ?_, ?_, ?_, f4⟩
      · have hstep : rs_solve.s2 n l (sa, sb, su, sv, ()) G = some (.inl (sb, tx, sv, ty, ()), G1) := by
          unfold rs_solve.s2
          simp only [d2, bind_some, hw1, hw2, decide_eq_true hle, cond_t, loopW_eq e1]
        rw [iter, hstep]
        exact f1
      · rw [solL, if_pos hle]; exact f2
      · rw [solL, if_pos hle]; exact f3
    · refine ⟨1, sb, sv, G, ?_, by rw [solL, if_neg hle]; exact hb, by rw [solL, if_neg hle]; exact hv, k⟩
      rw [iter]
      unfold rs_solve.s2
      simp only [d2, bind_some, hw1, hw2, decide_eq_false hle, cond_f]
      rfl
/-- The two polynomials: that of what is left, and that of the places. -/
def solF (T : Bytes) (n l : Nat) : Bytes × Bytes := solL (n + l) (tl T) (trim (psh n [1])) T [] [1]
theorem solve_eq {s : Sl} {T : Bytes} (h : PAt H s T) {n l : Nat} (hn : 1 ≤ n) (hn2 : n < 200) (hl : l < 200) (hT : T.length ≤ n) : ∃ tb tv G, rs_solve s (n : Int) (l : Int) H = some ((tv, tb, ()), G) ∧ PAt G tb (solF T n l).1 ∧ PAt G tv (solF T n l).2 ∧ Keep (fun _ => False) H G := by
  have k1 : Keep (fun _ => False) H (H ++ [.cells [.int .u8 (un 1)] .exact]) := Keep.push _ _ _
  obtain ⟨t2, G2, a1, a2, a3⟩ := shift_eq (one_at (H := H) 1) (n := n) (by show n + 1 < _; omega)
  have k3 : Keep (fun _ => False) G2 (G2 ++ [.cells [.int .u8 (un 1)] .exact]) := Keep.push _ _ _
  have hal : (trim (psh n [1])).length ≤ n + 1 := by
    refine Nat.le_trans tl_le_len ?_
    unfold psh
    rw [pl_len]; exact Nat.le_refl _
  have htl := tl_le (trim (psh n [1]))
  have htT := tl_le T
  have hnil : PAt (G2 ++ [.cells [.int .u8 (un 1)] .exact]) ⟨none, 0, 0⟩ [] := ⟨⟨rfl, fun _ => rfl⟩, Nat.le_refl _⟩
  obtain ⟨j, tb, tv, G, e1, e2, e3, e4⟩ := sol_iter (H := H) (m := n + l) (M := n + 2) (by omega) (by omega) (by omega) (n : Int) (l : Int) (by omega) (by omega) (tl T) t2 s ⟨none, 0, 0⟩ ⟨some (G2.length, 0), 1, 1⟩ (trim (psh n [1])) T [] [1] _ (a2.keep k3) (((h.keep k1).keep a3).keep k3) hnil (one_at 1) ((k1.trans a3).trans k3) (Nat.le_refl _) (by omega) (by omega) (by show _ + 1 ≤ _; omega) (by show 0 + _ ≤ _; omega)
  refine ⟨tb, tv, G, ?_, e2, e3, e4⟩
  unfold rs_solve
  have a1' : gf_Poly_Shift ⟨some (H.length, 0), 1, 1⟩ (n : Int) (H ++ [Blk.cells [.int .u8 1] .exact]) = some ((t2, ()), G2) := a1
  have e1' : loopW (rs_solve.s2 (n : Int) (l : Int)) (t2, s, ⟨none, 0, 0⟩, ⟨some (G2.length, 0), 1, 1⟩, ()) (G2 ++ [Blk.cells [.int .u8 1] .exact]) = some ((tb, tv, ()), G) := loopW_eq e1
  simp only [a1', bind_some, e1']
end
end Ev
