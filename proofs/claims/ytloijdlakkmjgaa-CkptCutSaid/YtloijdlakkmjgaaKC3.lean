/- SCkpt SGrow SCkptT Crc SCode -/
import Derived.Test.YtloijdlakkmjgaaGCkpt
import Derived.Test.YtloijdlakkmjgaaKC2
import Derived.Test.YtloijdlakkmjgaaKC1
import Derived.Test.YtloijdlakkmjgaaGCode
/- Checkpoints: what is found, and whether all pages of one are there. -/
namespace Ev
open Go (IntKind)

abbrev F8 := Int × Int × Int × Int × Int × Int × Int × Bytes × Unit
abbrev T5 := Int × Int × Int × Int × Int × Unit
abbrev fts : List CT := [.int .i64, .int .i64, .int .i64, .int .u64, .int .i64, .int .i64, .int .i64, .str]
abbrev tts : List CT := [.int .i64, .int .u64, .int .i64, .int .i64, .int .i64]
abbrev fC (x : F8) : List C := [.int .i64 x.1, .int .i64 x.2.1, .int .i64 x.2.2.1, .int .u64 x.2.2.2.1, .int .i64 x.2.2.2.2.1, .int .i64 x.2.2.2.2.2.1, .int .i64 x.2.2.2.2.2.2.1, .str x.2.2.2.2.2.2.2.1]
abbrev tC (t : T5) : List C := [.int .i64 t.1, .int .u64 t.2.1, .int .i64 t.2.2.1, .int .i64 t.2.2.2.1, .int .i64 t.2.2.2.2.1]
abbrev tagF (x : F8) : T5 := (x.2.2.1, x.2.2.2.1, x.2.2.2.2.1, x.2.2.2.2.2.1, x.2.2.2.2.2.2.1, ())
def rowsF (L : List F8) : List C := (L.map fC).flatten
theorem rowsF_eq (L : List F8) : rowsF L = rowsOf fts L := rfl
theorem rowsF_len (L : List F8) : (rowsF L).length = L.length * 8 := rowsC_length (cts := fts) L

/-- A thing that was found, at a place of the heap. -/
structure FAt (H : Heap) (b o : Nat) (x : F8) : Prop where
  at_ : ∃ cs bk, H[b]? = some (.cells cs bk) ∧ o + 8 ≤ cs.length ∧ (cs.drop o).take 8 = fC x
theorem FAt.lt {H : Heap} {b o : Nat} {x : F8} (h : FAt H b o x) : b < H.length := by
  obtain ⟨cs, bk, h1, _⟩ := h.at_
  exact get_lt h1
theorem FAt.keep {H H' : Heap} {b o : Nat} {x : F8} (h : FAt H b o x) (e : H'[b]? = H[b]?) : FAt H' b o x := by
  obtain ⟨cs, bk, h1, h2⟩ := h.at_
  exact ⟨cs, bk, by rw [e, h1], h2⟩
theorem FAt.cell {H : Heap} {b o : Nat} {x : F8} (h : FAt H b o x) : ∃ cs bk, H[b]? = some (.cells cs bk) ∧ ∀ j, j < 8 → cs[o + j]? = (fC x)[j]? := by
  obtain ⟨cs, bk, h1, h2, h3⟩ := h.at_
  refine ⟨cs, bk, h1, fun j hj => ?_⟩
  rw [← h3, List.getElem?_take, if_pos hj, List.getElem?_drop]
theorem FAt.all {H : Heap} {b o : Nat} {x : F8} (h : FAt H b o x) : @Eq (Option F8) (rd H (.agg [.int .i64, .int .i64, .int .i64, .int .u64, .int .i64, .int .i64, .int .i64, .str]) b o) (some x) := by
  obtain ⟨cs, bk, h1, h2, h3⟩ := h.at_
  exact rd_agg_of (ts := fts) h1 h2 (by show Tup.un fts ((cs.drop o).take 8) = _; rw [h3]; rfl)
theorem FAt.tag {H : Heap} {b o : Nat} {x : F8} (h : FAt H b o x) : @Eq (Option T5) (rd H (.agg [.int .i64, .int .u64, .int .i64, .int .i64, .int .i64]) b (o + 2)) (some (tagF x)) := by
  obtain ⟨cs, bk, h1, h2, h3⟩ := h.at_
  refine rd_agg_of (ts := tts) h1 (show o + 2 + 5 ≤ cs.length by omega) ?_
  have : (cs.drop (o + 2)).take 5 = (((cs.drop o).take 8).drop 2).take 5 := by
    rw [List.drop_take, List.drop_drop, List.take_take]; rfl
  show Tup.un tts ((cs.drop (o + 2)).take 5) = _
  rw [this, h3]; rfl
theorem FAt.st {H : Heap} {b o : Nat} {x : F8} (h : FAt H b o x) : rdI .i64 H b (o + 1) = some x.2.1 := by
  obtain ⟨cs, bk, h1, h2⟩ := h.cell
  exact rdI_of h1 (h2 1 (by decide))
theorem FAt.seq {H : Heap} {b o : Nat} {x : F8} (h : FAt H b o x) : rdI .u64 H b (o + 3) = some x.2.2.2.1 := by
  obtain ⟨cs, bk, h1, h2⟩ := h.cell
  exact rdI_of h1 (h2 3 (by decide))
theorem FAt.text {H : Heap} {b o : Nat} {x : F8} (h : FAt H b o x) : rdS H b (o + 7) = some x.2.2.2.2.2.2.2.1 := by
  obtain ⟨cs, bk, h1, h2⟩ := h.cell
  exact rdS_of h1 (h2 7 (by decide))
theorem found_at {H : Heap} {s : Sl} {L : List F8} (h : Row H 8 s (rowsF L)) {i : Nat} (hi : i < L.length) : ∃ b o, Sl.at 8 s (i : Int) = some (b, o) ∧ (∃ o', s.p = some (b, o')) ∧ FAt H b o L[i] := by
  obtain ⟨b, o, _, h1, h0, cs, bk, h2, h3, h4⟩ := Row.at (cts := fts) (rows := L) h hi (by decide)
  exact ⟨b, o, h1, h0, cs, bk, h2, h3, h4⟩
theorem found_len {H : Heap} {s : Sl} {L : List F8} (h : Row H 8 s (rowsF L)) : s.len = L.length := by
  have := h.len
  rw [rowsF_len] at this
  omega
theorem f_last {H : Heap} {x : F8} : FAt (H ++ [.cells (fC x) .exact]) H.length 0 x := ⟨_, _, app_last, Nat.le_refl 8, rfl⟩

/-! Rows in which one row is written. -/
theorem arrC_split {f : Nat → List C} {es : Nat} (hf : ∀ i, (f i).length = es) {i : Nat} : ∀ {n : Nat}, i < n → ∃ A E, A.length = i * es ∧ ∀ g : Nat → List C, (∀ k, k ≠ i → g k = f k) → arrC n g = A ++ g i ++ E
  | 0, h => absurd h (Nat.not_lt_zero _)
  | n + 1, h => by
    by_cases hi : i < n
    · obtain ⟨A, E, h1, h2⟩ := arrC_split hf hi
      exact ⟨A, E ++ f n, h1, fun g hg => by rw [arrC, h2 g hg, hg n (by omega), List.append_assoc]⟩
    · have : i = n := by omega
      subst this
      exact ⟨arrC i f, [], arrC_length hf i, fun g hg => by rw [arrC, List.append_nil, arrC_congr fun k hk => hg k (by omega)]⟩
theorem setL_in : ∀ (D B A E : List C) (o : Nat), A.length = o → B.length = D.length → setL (A ++ B ++ E) o D = A ++ D ++ E
  | [], [], A, E, _, _, _ => by simp [setL]
  | x :: D, y :: B, A, E, o, ho, h => by
    subst ho
    have := setL_in D B (A ++ [x]) E (A.length + 1) (by simp) (by simpa using h)
    simp only [setL]
    rw [show (A ++ y :: B ++ E).set A.length x = A ++ [x] ++ B ++ E by simp]
    rw [this]; simp
theorem arrC_setL {f : Nat → List C} {es : Nat} (hf : ∀ i, (f i).length = es) {i n : Nat} (hi : i < n) {row : List C} (hr : row.length = es) : setL (arrC n f) (i * es) row = arrC n fun k => if k = i then row else f k := by
  obtain ⟨A, E, h1, h2⟩ := arrC_split hf hi
  rw [h2 f fun _ _ => rfl, h2 (fun k => if k = i then row else f k) fun k hk => if_neg hk, if_pos rfl]
  exact setL_in row (f i) A E _ h1 (by rw [hf, hr])
theorem arrC_rows {n : Nat} {pg : Nat → F8} : arrC n (fun k => fC (pg k)) = rowsF ((List.range n).map pg) := by
  induction n with
  | zero => rfl
  | succ n ih =>
    rw [arrC, ih, List.range_succ, List.map_append]
    unfold rowsF
    rw [List.map_append, List.flatten_append]
    simp

/-! Whether one of them is false. -/
theorem contains_no {H : Heap} {b n : Nat} {bk : BK} {f : Nat → Bool} (h : H[b]? = some (.cells (arrC n fun k => [.bool (f k)]) bk)) (hn : n < 4611686018427387904) : ∃ r, slices_Contains_bool_bool ⟨some (b, 0), n, n⟩ false H = some ((r, ()), H) ∧ (r = false ↔ ∀ k, k < n → f k = true) := by
  unfold slices_Contains_bool_bool slices_Index_bool_bool
  obtain ⟨w, G, l1, l2, l3⟩ := loop_rise (step := slices_Index_bool_bool.s1 ⟨some (b, 0), n, n⟩ false) n (fun i z G => G = H ∧ z = ((i : Int), ()) ∧ ∀ k, k < i → f k = true) (fun y G => G = H ∧ match y with | .inl _ => ∀ k, k < n → f k = true | .inr z => 0 ≤ z.1 ∧ ∃ k, k < n ∧ f k = false)
    (by
      rintro i _ _ hi ⟨rfl, rfl, hh⟩
      have hat : Sl.at 1 ⟨some (b, 0), n, n⟩ (i : Int) = some (b, i) := by rw [at_of (by omega) (by show (i : Int) < (n : Int); omega), Int.toNat_natCast, Nat.mul_one, Nat.zero_add]
      have hg := arrC_get (f := fun k => [C.bool (f k)]) (es := 1) (fun _ => rfl) (j := 0) (by decide) hi
      rw [Nat.mul_one, Nat.add_zero] at hg
      have hr : rdB _ b i = some (f i) := rdB_of h hg
      cases hf : f i with
      | true =>
        refine .inl ⟨_, _, ?_, rfl, rfl, fun k hk => ?_⟩
        · unfold slices_Index_bool_bool.s1
          rw [hf] at hr
          simp only [decide_eq_true (show (i : Int) < (n : Int) by omega), cond_t, hat, bind_some, hr, show (false == true) = false from rfl, cond_f, wrap_succ (show i < 9223372036854775807 by omega)]
        · by_cases e : k = i
          · rw [e, hf]
          · exact hh k (by omega)
      | false =>
        refine .inr ⟨.inr ((i : Int), ()), _, ?_, rfl, by show (0 : Int) ≤ (i : Int); omega, i, hi, hf⟩
        unfold slices_Index_bool_bool.s1
        rw [hf] at hr
        simp only [decide_eq_true (show (i : Int) < (n : Int) by omega), cond_t, hat, bind_some, hr, show (false == false) = true from rfl])
    (by
      rintro _ _ ⟨rfl, rfl, hh⟩
      refine ⟨.inl (), _, ?_, rfl, hh⟩
      unfold slices_Index_bool_bool.s1
      simp only [decide_eq_false (show ¬ (n : Int) < (n : Int) by omega), cond_f])
    (y := (((0 : Nat) : Int), ())) (H := H) ⟨rfl, rfl, fun k hk => absurd hk (Nat.not_lt_zero _)⟩
  subst l2
  have l1' : loopW (slices_Index_bool_bool.s1 ⟨some (b, 0), n, n⟩ false) (0, ()) G = some (w, G) := l1
  cases w with
  | inl u =>
    refine ⟨false, ?_, fun _ => l3, fun _ => rfl⟩
    simp only [l1', bind_some, sum0]
    rfl
  | inr z =>
    obtain ⟨h0, k, hk, hf⟩ : 0 ≤ z.1 ∧ ∃ k, k < n ∧ f k = false := l3
    refine ⟨true, ?_, fun e => by (cases e), fun e => by rw [e k hk] at hf; cases hf⟩
    simp only [l1', bind_some, sum1, decide_eq_true h0]

/-- The thing found is a page of that checkpoint. -/
def hit (t : T5) (x : F8) : Bool := decide (x.2.1 = 1) && (decide (x.2.2.1 = t.1) && (decide (x.2.2.2.2.2.1 = t.2.2.2.1) && (decide (x.2.2.2.2.1 < t.2.2.2.1) && decide (x.2.2.2.1 = t.2.1))))
abbrev F8.ix (x : F8) : Int := x.2.2.2.2.1
abbrev T5.of (t : T5) : Int := t.2.2.2.1
def Whole (L : List F8) (t : T5) : Prop := ∀ k : Nat, (k : Int) < T5.of t → ∃ x ∈ L, hit t x = true ∧ F8.ix x = (k : Int)
theorem cond_and {H : Heap} (a b : Bool) : cond a (some ((b, ()), H) : Option ((Bool × Unit) × Heap)) (some ((false, ()), H)) = some ((a && b, ()), H) := by cases a <;> rfl

structure WS (H : Heap) (t : T5) (n : Nat) (L : List F8) (i : Nat) (G : Heap) (pg : Nat → F8) (sn : Nat → Bool) : Prop where
  keep : Keep (fun _ => False) H G
  tag : G[H.length]? = some (.cells (tC t) .exact)
  pgs : G[H.length + 1]? = some (.cells (arrC n fun k => fC (pg k)) .exact)
  sns : G[H.length + 2]? = some (.cells (arrC n fun k => [.bool (sn k)]) .exact)
  put : ∀ k, k < n → sn k = true → pg k ∈ L ∧ hit t (pg k) = true ∧ F8.ix (pg k) = (k : Int)
  all : ∀ k, k < n → (sn k = true ↔ ∃ x ∈ L.take i, hit t x = true ∧ F8.ix x = (k : Int))
theorem WS.set {H : Heap} {t : T5} {n : Nat} {L : List F8} {i : Nat} {G : Heap} {pg : Nat → F8} {sn : Nat → Bool} (w : WS H t n L i G pg sn) (hL : i < L.length) {k : Nat} (hk : k < n) (hh : hit t L[i] = true) (hx : F8.ix L[i] = (k : Int)) :
    ∃ G1 G2, wr G (H.length + 1) (k * 8) (fC L[i]) = some G1 ∧ wr G1 (H.length + 2) k [.bool true] = some G2 ∧ G1.length = G.length ∧ (∀ j, j ≠ H.length + 1 → G1[j]? = G[j]?) ∧ WS H t n L (i + 1) G2 (upd pg k L[i]) (upd sn k true) := by
  have l1 : H.length + 1 < G.length := get_lt w.pgs
  have l2 : H.length + 2 < G.length := get_lt w.sns
  have hl := arrC_length (f := fun k => fC (pg k)) (es := 8) (fun _ => rfl) n
  have hl2 := arrC_length (f := fun k => [C.bool (sn k)]) (es := 1) (fun _ => rfl) n
  have e1 : wr G (H.length + 1) (k * 8) (fC L[i]) = some (G.set (H.length + 1) (.cells (arrC n fun j => fC (upd pg k L[i] j)) .exact)) := by
    rw [wr_of w.pgs (by decide) (by rw [hl]; show k * 8 + 8 ≤ n * 8; omega), arrC_setL (f := fun k => fC (pg k)) (es := 8) (fun _ => rfl) hk (row := fC L[i]) rfl]
    congr 4
    funext j
    by_cases hj : j = k
    · simp [upd, hj]
    · simp [upd, hj]
  have g1 : (G.set (H.length + 1) (.cells (arrC n fun j => fC (upd pg k L[i] j)) .exact))[H.length + 2]? = some (.cells (arrC n fun k => [.bool (sn k)]) .exact) := by rw [set_get' (by omega)]; exact w.sns
  have hs := arrC_set (f := fun k => [C.bool (sn k)]) (es := 1) (fun _ => rfl) (j := 0) (by decide) (.bool true) hk
  rw [Nat.mul_one, Nat.add_zero] at hs
  have hs2 : (arrC n fun j => if j = k then ([C.bool (sn k)]).set 0 (.bool true) else [C.bool (sn j)]) = arrC n fun j => [C.bool (upd sn k true j)] := by
    refine arrC_congr fun j _ => ?_
    by_cases hj : j = k
    · simp [upd, hj]
    · simp [upd, hj]
  refine ⟨_, _, e1, by rw [wr1_of g1 (by decide) (by omega), hs, hs2], by simp, fun j hj => set_get' (fun e => hj e.symm), ?_, ?_, ?_, ?_, ?_, ?_⟩
  · refine ((w.keep.mono (G := fun j => j = H.length + 1 ∨ j = H.length + 2) fun _ h => h.elim).trans ((Keep.set _ _ _ (.inl rfl)).trans (Keep.set _ _ _ (.inr rfl)))).new fun j hj hlt => ?_
    have : j = H.length + 1 ∨ j = H.length + 2 := hj
    omega
  · rw [set_get' (by omega), set_get' (by omega)]; exact w.tag
  · rw [set_get' (by omega), set_get (by omega)]
  · rw [set_get (by simp; omega)]
  · intro j hj hsn
    by_cases e : j = k
    · subst e
      simp only [upd, if_true]
      exact ⟨List.getElem_mem hL, hh, hx⟩
    · simp only [upd, if_neg e] at hsn ⊢
      exact w.put j hj hsn
  · intro j hj
    rw [List.take_succ_eq_append_getElem hL]
    by_cases e : j = k
    · subst e
      simp only [upd, if_true, true_iff]
      exact ⟨L[i], List.mem_append_right _ (List.mem_singleton.2 rfl), hh, hx⟩
    · simp only [upd, if_neg e]
      rw [w.all j hj]
      constructor
      · rintro ⟨x, h1, h2⟩; exact ⟨x, List.mem_append_left _ h1, h2⟩
      · rintro ⟨x, h1, h2, h3⟩
        rcases List.mem_append.1 h1 with h1 | h1
        · exact ⟨x, h1, h2, h3⟩
        · rw [List.mem_singleton] at h1
          subst h1
          exact absurd (Int.natCast_inj.1 (h3.symm.trans hx)) e

theorem WS.more {H : Heap} {t : T5} {n : Nat} {L : List F8} {i : Nat} {G : Heap} {pg : Nat → F8} {sn : Nat → Bool} (w : WS H t n L i G pg sn) (x : Blk) : WS H t n L i (G ++ [x]) pg sn :=
  ⟨w.keep.trans (Keep.push _ _ _), by rw [app_lt (get_lt w.tag)]; exact w.tag, by rw [app_lt (get_lt w.pgs)]; exact w.pgs, by rw [app_lt (get_lt w.sns)]; exact w.sns, w.put, w.all⟩
theorem WS.next {H : Heap} {t : T5} {n : Nat} {L : List F8} {i : Nat} {G : Heap} {pg : Nat → F8} {sn : Nat → Bool} (w : WS H t n L i G pg sn) (hL : i < L.length) (hh : hit t L[i] = false) : WS H t n L (i + 1) G pg sn := by
  refine ⟨w.keep, w.tag, w.pgs, w.sns, w.put, fun k hk => ?_⟩
  rw [w.all k hk, List.take_succ_eq_append_getElem hL]
  constructor
  · rintro ⟨x, h1, h2⟩; exact ⟨x, List.mem_append_left _ h1, h2⟩
  · rintro ⟨x, h1, h2, h3⟩
    rcases List.mem_append.1 h1 with h1 | h1
    · exact ⟨x, h1, h2, h3⟩
    · rw [List.mem_singleton] at h1
      subst h1
      rw [hh] at h2; cases h2
theorem whole_step {H : Heap} {t : T5} {n : Nat} {s : Sl} {L : List F8} (hs : Row H 8 s (rowsF L)) (hI : ∀ x ∈ L, x.2.1 = 1 → 0 ≤ F8.ix x) (hn : T5.of t = (n : Int)) (hLl : L.length < 1000000) (A B : Heap) {i : Nat} (hi : i < L.length) {G : Heap} {pg : Nat → F8} {sn : Nat → Bool} (w : WS H t n L i G pg sn) :
    ∃ G' pg' sn', ckpt_whole.s1 s H (⟨some (H.length + 1, 0), n, n⟩, A) (⟨some (H.length + 2, 0), n, n⟩, B) ((i : Int), ()) G = some (.inl (((i + 1 : Nat) : Int), ()), G') ∧ WS H t n L (i + 1) G' pg' sn' := by
  have hsl := found_len hs
  obtain ⟨b, o, a1, ⟨o', a2⟩, fa⟩ := found_at hs hi
  have fg : FAt G b o L[i] := by
    obtain ⟨cs, bk, h1, h2⟩ := fa
    exact ⟨cs, bk, w.keep.get h1 (fun h => h), h2⟩
  generalize hx : L[i] = x at fg
  let G1 : Heap := G ++ [.cells (fC x) .exact]
  have w1 : wr (G ++ [Blk.cells [.int .i64 0, .int .i64 0, .int .i64 0, .int .u64 0, .int .i64 0, .int .i64 0, .int .i64 0, .str []] .exact]) G.length 0 (fC x) = some G1 := by
    rw [wr_last (by decide) (by simp)]; rfl
  have r1 : @Eq (Option T5) (rd G1 (.agg [.int .i64, .int .u64, .int .i64, .int .i64, .int .i64]) G.length 2) (some (tagF x)) := (f_last (H := G) (x := x)).tag
  let G2 : Heap := G1 ++ [.cells (tC (tagF x)) .exact]
  have w2 : wr (G1 ++ [Blk.cells [.int .i64 0, .int .u64 0, .int .i64 0, .int .i64 0, .int .i64 0] .exact]) G1.length 0 (tC (tagF x)) = some G2 := by
    rw [wr_last (by decide) (by simp)]; rfl
  have hl1 : G1.length = G.length + 1 := by simp [G1]
  have ff : FAt G2 G.length 0 x := f_last.keep (app_lt (by omega))
  have q1 : rdI .i64 G2 G.length 1 = some x.2.1 := ff.st
  have q2 : rdI .i64 G2 G1.length 0 = some x.2.2.1 := rdI_of app_last rfl
  have q3 : rdI .u64 G2 G1.length 1 = some x.2.2.2.1 := rdI_of app_last rfl
  have q4 : rdI .i64 G2 G1.length 2 = some x.2.2.2.2.1 := rdI_of app_last rfl
  have q5 : rdI .i64 G2 G1.length 3 = some x.2.2.2.2.2.1 := rdI_of app_last rfl
  have ws := (w.more (.cells (fC x) .exact)).more (.cells (tC (tagF x)) .exact)
  have p1 : rdI .i64 G2 H.length 0 = some t.1 := rdI_of ws.tag rfl
  have p2 : rdI .u64 G2 H.length 1 = some t.2.1 := rdI_of ws.tag rfl
  have p3 : rdI .i64 G2 H.length 3 = some t.2.2.2.1 := rdI_of ws.tag rfl
  have hlen : decide ((i : Int) < (s.len : Int)) = true := decide_eq_true (by omega)
  have hsu := wrap_succ (show i < 9223372036854775807 by omega)
  have e0 : @Eq (Option F8) (rd G (.agg [.int .i64, .int .i64, .int .i64, .int .u64, .int .i64, .int .i64, .int .i64, .str]) b o) (some x) := fg.all
  cases hh : hit t x with
  | false =>
    have hh' : (decide (x.2.1 = 1) && (decide (x.2.2.1 = t.1) && (decide (x.2.2.2.2.2.1 = t.2.2.2.1) && (decide (x.2.2.2.2.1 < t.2.2.2.1) && decide (x.2.2.2.1 = t.2.1))))) = false := hh
    refine ⟨G2, pg, sn, ?_, ws.next hi (by rw [hx]; exact hh)⟩
    unfold ckpt_whole.s1
    simp only [hlen, cond_t, a1, bind_some, e0, w1, r1, w2, q1, q2, q3, q4, q5, p1, p2, p3, cond_and, hh', cond_f, hsu]
  | true =>
    have hh' : (decide (x.2.1 = 1) && (decide (x.2.2.1 = t.1) && (decide (x.2.2.2.2.2.1 = t.2.2.2.1) && (decide (x.2.2.2.2.1 < t.2.2.2.1) && decide (x.2.2.2.1 = t.2.1))))) = true := hh
    have h0 : x.2.1 = 1 ∧ x.2.2.2.2.1 < t.2.2.2.1 := by
      simp only [Bool.and_eq_true, decide_eq_true_eq] at hh'
      exact ⟨hh'.1, hh'.2.2.2.1⟩
    have h1 : 0 ≤ F8.ix x := hI x (by rw [← hx]; exact List.getElem_mem hi) h0.1
    obtain ⟨k, hk⟩ : ∃ k : Nat, F8.ix x = (k : Int) := ⟨(F8.ix x).toNat, (Int.toNat_of_nonneg h1).symm⟩
    have hk' : x.2.2.2.2.1 = (k : Int) := hk
    have hkn : k < n := by
      have := h0.2
      have hn' : t.2.2.2.1 = (n : Int) := hn
      omega
    obtain ⟨G3, G4, v1, v2, v3, v4, v5⟩ := ws.set hi hkn (by rw [hx]; exact hh) (by rw [hx]; exact hk)
    rw [hx] at v1
    have v1' : wr G2 (H.length + 1) (k * 8) (fC x) = some G3 := v1
    refine ⟨G4, _, _, ?_, v5⟩
    have at1 : Sl.at 8 ⟨some (H.length + 1, 0), n, n⟩ (k : Int) = some (H.length + 1, k * 8) := by rw [at_of (by omega) (by show (k : Int) < (n : Int); omega), Int.toNat_natCast, Nat.zero_add]
    have at2 : Sl.at 1 ⟨some (H.length + 2, 0), n, n⟩ (k : Int) = some (H.length + 2, k) := by rw [at_of (by omega) (by show (k : Int) < (n : Int); omega), Int.toNat_natCast, Nat.zero_add, Nat.mul_one]
    rw [hk'] at q4
    have q6 : rdI .i64 G3 G1.length 2 = some (k : Int) := by
      have l1 := get_lt w.pgs
      have : G3[G1.length]? = some (.cells (tC (tagF x)) .exact) := by
        rw [v4 _ (by omega)]; exact app_last
      exact rdI_of this (by show some (C.int .i64 x.2.2.2.2.1) = _; rw [hk'])
    have hlt : decide ((k : Int) < t.2.2.2.1) = true := decide_eq_true (by have := h0.2; omega)
    have e2 : @Eq (Option F8) (rd G2 (.agg [.int .i64, .int .i64, .int .i64, .int .u64, .int .i64, .int .i64, .int .i64, .str]) G.length 0) (some x) := ff.all
    rw [hk'] at hh'
    unfold ckpt_whole.s1
    simp only [hlen, cond_t, a1, bind_some, e0, w1, r1, w2, q1, q2, q3, q4, q5, p1, p2, p3, cond_and, hh', at1, at2, e2, v1', q6, if_true, v2, hsu]

theorem whole_eq {H : Heap} {t : T5} {n : Nat} {s : Sl} {L : List F8} (hs : Row H 8 s (rowsF L)) (hI : ∀ x ∈ L, x.2.1 = 1 → 0 ≤ F8.ix x) (hn : T5.of t = (n : Int)) (hn2 : n ≤ 100000) (hLl : L.length < 1000000) :
    ∃ b G pg, ckpt_whole s t H = some ((⟨some (H.length + 1, 0), n, n⟩, b, ()), G) ∧ Keep (fun _ => False) H G ∧ (b = true ↔ Whole L t) ∧ Row G 8 ⟨some (H.length + 1, 0), n, n⟩ (rowsF ((List.range n).map pg)) ∧ (b = true → ∀ k, k < n → pg k ∈ L ∧ hit t (pg k) = true ∧ F8.ix (pg k) = (k : Int)) := by
  unfold ckpt_whole
  let z : F8 := (0, 0, 0, 0, 0, 0, 0, [], ())
  let H1 : Heap := H ++ [.cells (tC t) .exact]
  have r3 : rdI .i64 H1 H.length 3 = some (n : Int) := by rw [← hn]; exact rdI_of app_last rfl
  let H2 : Heap := H1 ++ [.cells (arrC n fun _ => fC z) .exact]
  have hl1 : H1.length = H.length + 1 := by simp [H1]
  have hl2 : H2.length = H.length + 2 := by simp [H2, hl1]
  have m1 : mkS H1 72 [.int .i64 0, .int .i64 0, .int .i64 0, .int .u64 0, .int .i64 0, .int .i64 0, .int .i64 0, .str []] (n : Int) (n : Int) = some (⟨some (H.length + 1, 0), n, n⟩, H2) := by
    rw [← hl1]; exact mkS_of (by omega) (by omega)
  have e1 : H1[H.length]? = some (.cells (tC t) .exact) := app_last
  have e2 : H2[H.length]? = some (.cells (tC t) .exact) := by rw [app_lt (by omega)]; exact app_last
  have r4 : rdI .i64 H2 H.length 3 = some (n : Int) := by rw [← hn]; exact rdI_of e2 rfl
  let H3 : Heap := H2 ++ [.cells (arrC n fun _ => [.bool false]) .exact]
  have m2 : mkS H2 1 [.bool false] (n : Int) (n : Int) = some (⟨some (H.length + 2, 0), n, n⟩, H3) := by
    rw [← hl2]; exact mkS_of (by omega) (by omega)
  have w0 : WS H t n L 0 H3 (fun _ => z) (fun _ => false) := by
    refine ⟨((Keep.push _ _ _).trans (Keep.push _ _ _)).trans (Keep.push _ _ _), ?_, ?_, ?_, fun k _ h => by (cases h), fun k _ => ?_⟩
    · rw [app_lt (by omega)]; exact e2
    · rw [app_lt (by omega), ← hl1]; exact app_last
    · rw [← hl2]; exact app_last
    · simp
  have hsl := found_len hs
  obtain ⟨u, G, l1, pg, sn, w⟩ := loop_rise (step := ckpt_whole.s1 s H (⟨some (H.length + 1, 0), n, n⟩, H2) (⟨some (H.length + 2, 0), n, n⟩, H3)) L.length (fun i y G => y = ((i : Int), ()) ∧ ∃ pg sn, WS H t n L i G pg sn) (fun _ G => ∃ pg sn, WS H t n L L.length G pg sn)
    (by
      rintro i _ G hi ⟨rfl, pg, sn, w⟩
      obtain ⟨G', pg', sn', h1, h2⟩ := whole_step hs hI hn hLl H2 H3 hi w
      exact .inl ⟨_, G', h1, rfl, pg', sn', h2⟩)
    (by
      rintro _ G ⟨rfl, pg, sn, w⟩
      refine ⟨(), G, ?_, pg, sn, w⟩
      unfold ckpt_whole.s1
      simp only [decide_eq_false (show ¬ ((L.length : Nat) : Int) < (s.len : Int) by omega), cond_f])
    (y := (((0 : Nat) : Int), ())) (H := H3) ⟨rfl, _, _, w0⟩
  have l1' : loopW (ckpt_whole.s1 s H (⟨some (H.length + 1, 0), n, n⟩, H2) (⟨some (H.length + 2, 0), n, n⟩, H3)) (0, ()) H3 = some (u, G) := l1
  obtain ⟨r, c1, c2⟩ := contains_no w.sns (by omega)
  refine ⟨!r, G, pg, ?_, w.keep, ?_, ?_, ?_⟩
  · have h1e : H ++ [Blk.cells [.int .i64 t.1, .int .u64 t.2.1, .int .i64 t.2.2.1, .int .i64 t.2.2.2.1, .int .i64 t.2.2.2.2.1] .exact] = H1 := rfl
    simp only [h1e, r3, bind_some, m1, r4, m2, l1', c1]
  · have : (!r) = true ↔ r = false := by cases r <;> simp
    rw [this, c2]
    unfold Whole
    rw [hn]
    constructor
    · intro h k hk
      have := (w.all k (by omega)).1 (h k (by omega))
      rwa [List.take_length] at this
    · intro h k hk
      refine (w.all k hk).2 ?_
      rw [List.take_length]
      exact h k (by omega)
  · rw [← arrC_rows]
    refine ⟨?_, fun hp => by (cases hp)⟩
    unfold slRow
    simp only [Heap.row, w.pgs]
    exact cut_all (arrC_length (f := fun k => fC (pg k)) (es := 8) (fun _ => rfl) n).symm
  · intro hr k hk
    have : r = false := by cases r <;> simp_all
    exact w.put k hk (c2.1 this k hk)

/-! The newest one. -/
open Classical in
noncomputable def nwS (L : List F8) (c : Option T5) (x : F8) : Option T5 := if x.2.1 = 1 ∧ x.2.2.1 = 3 ∧ (∀ t, c = some t → t.2.1 < x.2.2.2.1) ∧ Whole L (tagF x) then some (tagF x) else c
noncomputable def nw (L : List F8) (i : Nat) : Option T5 := (L.take i).foldl (nwS L) none
theorem nw_succ (L : List F8) {i : Nat} (hi : i < L.length) : nw L (i + 1) = nwS L (nw L i) L[i] := by
  unfold nw
  rw [List.take_succ_eq_append_getElem hi, List.foldl_append]; rfl
def Cur (G : Heap) (L : List F8) (c : Option T5) (cs : Sl) : Prop := match c with
  | none => cs = ⟨none, 0, 0⟩
  | some t => ∃ n pg, 0 < n ∧ T5.of t = ((n : Nat) : Int) ∧ cs.len = n ∧ Row G 8 cs (rowsF ((List.range n).map pg)) ∧ ∀ k, k < n → pg k ∈ L ∧ hit t (pg k) = true ∧ F8.ix (pg k) = (k : Int)
theorem Cur.keep {G G' : Heap} {L : List F8} {c : Option T5} {cs : Sl} (h : Cur G L c cs) (k : Keep (fun _ => False) G G') : Cur G' L c cs := by
  cases c with
  | none => exact h
  | some t =>
    obtain ⟨n, pg, h0, h1, h2, h3, h4⟩ := h
    exact ⟨n, pg, h0, h1, h2, h3.keep k (fun _ _ _ h => h), h4⟩
theorem Cur.len {G : Heap} {L : List F8} {c : Option T5} {cs : Sl} (h : Cur G L c cs) : decide (0 < (cs.len : Int)) = c.isSome := by
  cases c with
  | none =>
    have h : cs = ⟨none, 0, 0⟩ := h
    subst h; rfl
  | some t =>
    obtain ⟨n, pg, h0, h1, h2, _⟩ := h
    exact decide_eq_true (by omega)
theorem hit_seq {t : T5} {x : F8} (h : hit t x = true) : x.2.1 = 1 ∧ x.2.2.1 = t.1 ∧ x.2.2.2.2.2.1 = t.2.2.2.1 ∧ x.2.2.2.2.1 < t.2.2.2.1 ∧ x.2.2.2.1 = t.2.1 := by
  unfold hit at h
  simp only [Bool.and_eq_true, decide_eq_true_eq] at h
  exact h
theorem Cur.seq {G : Heap} {L : List F8} {t : T5} {cs : Sl} (h : Cur G L (some t) cs) : ∃ b o, Sl.at 8 cs 0 = some (b, o) ∧ rdI .u64 G b (o + 3) = some t.2.1 ∧ b < G.length := by
  obtain ⟨n, pg, h0, h1, h2, h3, h4⟩ := h
  obtain ⟨b, o, a1, _, fa⟩ := found_at h3 (i := 0) (by simpa using h0)
  have hx : ((List.range n).map pg)[0]'(by simpa using h0) = pg 0 := by simp
  rw [hx] at fa
  have hs := fa.seq
  rw [(hit_seq (h4 0 h0).2.1).2.2.2.2] at hs
  exact ⟨b, o, a1, hs, fa.lt⟩
theorem newest_eq {H : Heap} {s : Sl} {L : List F8} (hs : Row H 8 s (rowsF L)) (hI : ∀ x ∈ L, x.2.1 = 1 → 0 ≤ F8.ix x) (hO : ∀ x ∈ L, x.2.1 = 1 → 1 ≤ x.2.2.2.2.2.1 ∧ x.2.2.2.2.2.1 ≤ 100000) (hLl : L.length < 1000000) :
    ∃ cs G, ckpt_Newest s H = some ((cs, (nw L L.length).isSome, ()), G) ∧ Keep (fun _ => False) H G ∧ Cur G L (nw L L.length) cs := by
  have hsl := found_len hs
  unfold ckpt_Newest
  obtain ⟨u, G, l1, l2⟩ := loop_rise (step := ckpt_Newest.s1 s) L.length (fun i y G => ∃ cs, y = (cs, (i : Int), ()) ∧ Keep (fun _ => False) H G ∧ Cur G L (nw L i) cs) (fun y G => ∃ cs, y = (cs, ()) ∧ Keep (fun _ => False) H G ∧ Cur G L (nw L L.length) cs)
    (by
      rintro i _ G hi ⟨cs, rfl, kp, cu⟩
      refine .inl ?_
      obtain ⟨b, o, a1, ⟨o', a2⟩, fa⟩ := found_at hs hi
      have fg : FAt G b o L[i] := by
        obtain ⟨cs, bk, h1, h2⟩ := fa
        exact ⟨cs, bk, kp.get h1 (fun h => h), h2⟩
      have hm : L[i] ∈ L := List.getElem_mem hi
      rw [nw_succ L hi]
      generalize hx : L[i] = x at fg hm
      let G1 : Heap := G ++ [.cells (fC x) .exact]
      have w1 : wr (G ++ [Blk.cells [.int .i64 0, .int .i64 0, .int .i64 0, .int .u64 0, .int .i64 0, .int .i64 0, .int .i64 0, .str []] .exact]) G.length 0 (fC x) = some G1 := by
        rw [wr_last (by decide) (by simp)]; rfl
      have e0 : @Eq (Option F8) (rd G (.agg [.int .i64, .int .i64, .int .i64, .int .u64, .int .i64, .int .i64, .int .i64, .str]) b o) (some x) := fg.all
      have ff : FAt G1 G.length 0 x := f_last
      have q1 : rdI .i64 G1 G.length 1 = some x.2.1 := ff.st
      have q2 : rdI .i64 G1 G.length 2 = some x.2.2.1 := rdI_of app_last rfl
      have q3 : rdI .u64 G1 G.length 3 = some x.2.2.2.1 := ff.seq
      have q4 : @Eq (Option T5) (rd G1 (.agg [.int .i64, .int .u64, .int .i64, .int .i64, .int .i64]) G.length 2) (some (tagF x)) := ff.tag
      have hlen : decide ((i : Int) < (s.len : Int)) = true := decide_eq_true (by omega)
      have hsu := wrap_succ (show i < 9223372036854775807 by omega)
      have k1 : Keep (fun _ => False) H G1 := kp.trans (Keep.push _ _ _)
      have c1 := cu.keep (Keep.push (fun _ => False) G (.cells (fC x) .exact))
      by_cases y1 : x.2.1 = 1
      rotate_left
      · refine ⟨_, G1, ?_, cs, rfl, k1, by unfold nwS; rw [if_neg (fun h => y1 h.1)]; exact c1⟩
        unfold ckpt_Newest.s1
        simp only [hlen, cond_t, a1, bind_some, e0, w1, q1, decide_eq_false y1, Bool.not_false, sum1, hsu]
      by_cases y2 : x.2.2.1 = 3
      rotate_left
      · refine ⟨_, G1, ?_, cs, rfl, k1, by unfold nwS; rw [if_neg (fun h => y2 h.2.1)]; exact c1⟩
        unfold ckpt_Newest.s1
        simp only [hlen, cond_t, a1, bind_some, e0, w1, q1, decide_eq_true y1, Bool.not_true, cond_f, q2, decide_eq_false y2, Bool.not_false, sum1, hsu]
      obtain ⟨n, hn⟩ : ∃ n : Nat, T5.of (tagF x) = (n : Int) := ⟨(T5.of (tagF x)).toNat, (Int.toNat_of_nonneg (by have := hO x hm y1; show 0 ≤ x.2.2.2.2.2.1; omega)).symm⟩
      have hn0 : 1 ≤ n ∧ n ≤ 100000 := by
        have h1 := hO x hm y1
        have h2 : x.2.2.2.2.2.1 = (n : Int) := hn
        omega
      obtain ⟨b2, G2, pg, f1, f2, f3, f4, f5⟩ := whole_eq (H := G1) (hs.keep k1 fun _ _ _ h => h) hI hn hn0.2 hLl
      have f1' : ckpt_whole s (x.2.2.1, x.2.2.2.1, x.2.2.2.2.1, x.2.2.2.2.2.1, x.2.2.2.2.2.2.1, ()) G1 = some ((⟨some (G1.length + 1, 0), n, n⟩, b2, ()), G2) := f1
      have fin : (∀ t, nw L i = some t → t.2.1 < x.2.2.2.1) → ∃ cs', (cond b2 (some (Sum.inl (⟨some (G1.length + 1, 0), n, n⟩, ((i + 1 : Nat) : Int), ()), G2)) (some (Sum.inl (cs, ((i + 1 : Nat) : Int), ()), G2)) : Option (((Sl × Int × Unit) ⊕ (Sl × Unit)) × Heap)) = some (.inl (cs', ((i + 1 : Nat) : Int), ()), G2) ∧ Keep (fun _ => False) H G2 ∧ Cur G2 L (nwS L (nw L i) x) cs' := by
        intro hgt
        cases hb : b2 with
        | true =>
          refine ⟨_, rfl, k1.trans f2, ?_⟩
          unfold nwS
          rw [if_pos ⟨y1, y2, hgt, f3.1 hb⟩]
          exact ⟨n, pg, by omega, hn, rfl, f4, f5 hb⟩
        | false =>
          refine ⟨_, rfl, k1.trans f2, ?_⟩
          unfold nwS
          rw [if_neg (fun h => by rw [f3.2 h.2.2.2] at hb; cases hb)]
          exact c1.keep f2
      have hlc := cu.len
      cases hc : nw L i with
      | none =>
        rw [hc] at hlc
        have hlc' : decide (0 < (cs.len : Int)) = false := hlc
        obtain ⟨cs', g1, g2, g3⟩ := fin (fun t ht => by rw [hc] at ht; cases ht)
        rw [hc] at g3
        refine ⟨_, G2, ?_, cs', rfl, g2, g3⟩
        unfold ckpt_Newest.s1
        simp only [hlen, cond_t, a1, bind_some, e0, w1, q1, decide_eq_true y1, Bool.not_true, cond_f, q2, decide_eq_true y2, hlc', sum0, q4, f1', hsu, g1]
      | some t =>
        rw [hc] at hlc c1
        have hlc' : decide (0 < (cs.len : Int)) = true := hlc
        obtain ⟨b3, o3, s1, s2, _⟩ := Cur.seq c1
        have s2' : rdI .u64 G1 b3 (o3 + 3) = some t.2.1 := s2
        by_cases y3 : x.2.2.2.1 ≤ t.2.1
        · refine ⟨_, G1, ?_, cs, rfl, k1, by unfold nwS; rw [if_neg (fun h => by have := h.2.2.1 t rfl; omega)]; exact c1⟩
          unfold ckpt_Newest.s1
          simp only [hlen, cond_t, a1, bind_some, e0, w1, q1, decide_eq_true y1, Bool.not_true, cond_f, q2, decide_eq_true y2, hlc', q3, s1, s2', decide_eq_true y3, sum1, hsu]
        · obtain ⟨cs', g1, g2, g3⟩ := fin (fun t' ht => by rw [hc] at ht; cases ht; omega)
          rw [hc] at g3
          refine ⟨_, G2, ?_, cs', rfl, g2, g3⟩
          unfold ckpt_Newest.s1
          simp only [hlen, cond_t, a1, bind_some, e0, w1, q1, decide_eq_true y1, Bool.not_true, cond_f, q2, decide_eq_true y2, hlc', q3, s1, s2', decide_eq_false y3, sum0, q4, f1', hsu, g1])
    (by
      rintro _ G ⟨cs, rfl, kp, cu⟩
      refine ⟨_, G, ?_, cs, rfl, kp, cu⟩
      unfold ckpt_Newest.s1
      simp only [decide_eq_false (show ¬ ((L.length : Nat) : Int) < (s.len : Int) by omega), cond_f])
    (y := (⟨none, 0, 0⟩, ((0 : Nat) : Int), ())) (H := H) ⟨_, rfl, Keep.refl _ _, rfl⟩
  obtain ⟨cs, rfl, kp, cu⟩ := l2
  have l1' : loopW (ckpt_Newest.s1 s) (⟨none, 0, 0⟩, 0, ()) H = some ((cs, ()), G) := l1
  exact ⟨cs, G, by simp only [l1', bind_some, cu.len], kp, cu⟩
end Ev

/- Slices that grow one thing at a time, the thing ahead of it in a block of its own. -/
namespace Ev
open Go (IntKind)

structure GrowN (H0 G : Heap) (es : Nat) (s : Sl) (cs : List C) : Prop where
  gr : Grown G es s cs
  keep : Keep (fun _ => False) H0 G
  new : ∀ a, s.p = some a → H0.length ≤ a.1
theorem GrowN.ni {H0 G : Heap} (k : Keep (fun _ => False) H0 G) (es : Nat) : GrowN H0 G es ⟨none, 0, 0⟩ [] := ⟨Grown.ni G es, k, fun a h => by cases h⟩
theorem GrowN.em {H0 G : Heap} (k : Keep (fun _ => False) H0 G) (es : Nat) : GrowN H0 (G ++ [.cells [] .exact]) es ⟨some (G.length, 0), 0, 0⟩ [] :=
  ⟨⟨rfl, by simp, fun h => by (cases h), fun a h => by cases h; exact ⟨rfl, .inr app_last⟩⟩, k.trans (Keep.push _ _ _), fun a h => by cases h; exact k.len⟩
theorem GrowN.more {H0 G : Heap} {es : Nat} {s : Sl} {cs : List C} (g : GrowN H0 G es s cs) (x : Blk) : GrowN H0 (G ++ [x]) es s cs :=
  ⟨g.gr.push x, g.keep.trans (Keep.push _ _ _), g.new⟩
theorem GrowN.stay {H0 G G' : Heap} {es : Nat} {s : Sl} {cs : List C} (g : GrowN H0 G es s cs) {F : Nat → Prop} (k : Keep F G G') (hF : ∀ j, F j → j < G.length → H0.length ≤ j ∧ ∀ a, s.p = some a → a.1 ≠ j) : GrowN H0 G' es s cs := by
  refine ⟨g.gr.mono fun a ha => k.same _ (g.gr.lt ha) (fun h => (hF _ h (g.gr.lt ha)).2 a ha rfl), ⟨Nat.le_trans g.keep.len k.len, fun j hj _ => ?_⟩, g.new⟩
  have h1 := g.keep.len
  rw [k.same j (by omega) (fun h => by have := (hF j h (by omega)).1; omega), g.keep.same j hj id]
theorem GrowN.stay0 {H0 G G' : Heap} {es : Nat} {s : Sl} {cs : List C} (g : GrowN H0 G es s cs) (k : Keep (fun _ => False) G G') : GrowN H0 G' es s cs := g.stay k fun _ h => h.elim
theorem grownH_keep {G : Heap} {s : Sl} {cs : List C} : Keep (fun k => ∃ o, s.p = some (k, o)) G (grownH G s cs) :=
  ⟨by rw [grownH_length]; omega, fun j hj hF => grownH_get hj fun a ha e => hF ⟨a.2, by rw [ha, ← e]⟩⟩
theorem GrowN.one {H0 G : Heap} {es bytes : Nat} {s : Sl} {cs new : List C} (g : GrowN H0 G es s cs) (hes : 0 < es) (hn : new.length = es) (hb : (s.len + 1) * bytes ≤ 35184372088832) (hb2 : s.len + 1 ≤ 35184372088832) :
    ∃ s' G', slRow (G ++ [.cells new .exact]) es ⟨some (G.length, 0), 1, 1⟩ = some new ∧ appS (G ++ [.cells new .exact]) es bytes s 1 new = some (s', G') ∧ GrowN H0 G' es s' (cs ++ new) ∧ s'.len = s.len + 1 ∧ Keep (fun k => ∃ o, s.p = some (k, o)) G G' ∧ ∃ b, s'.p = some (b, 0) ∧ G.length < b := by
  have gp := g.gr.push (.cells new .exact)
  obtain ⟨a1, a2⟩ := gp.app (bytes := bytes) hes (n := 1) (new := new) (by decide) (by omega) hb hb2
  have kk : Keep (fun k => ∃ o, s.p = some (k, o)) G (grownH (G ++ [.cells new .exact]) s (cs ++ new)) := (Keep.push _ _ _).trans grownH_keep
  refine ⟨_, _, row_last (by omega), a1, ⟨a2, ?_, fun a ha => ?_⟩, rfl, kk, _, rfl, by simp⟩
  · have h1 := g.keep.len
    refine ⟨Nat.le_trans h1 kk.len, fun j hj _ => ?_⟩
    rw [kk.same j (by omega) (fun ⟨o, ho⟩ => by have := g.new _ ho; simp only at this; omega), g.keep.same j hj id]
  · cases ha
    have h1 := g.keep.len
    simp; omega
theorem GrowN.row {H0 G : Heap} {es : Nat} {s : Sl} {cs : List C} (g : GrowN H0 G es s cs) : Row G es s cs := Row.grown g.gr

/-- One text of a slice. -/
theorem Row.txt {H : Heap} {s : Sl} {l : List Bytes} (h : Row H 1 s (l.map C.str)) {i : Nat} (hi : i < l.length) : ∃ b o, Sl.at 1 s (i : Int) = some (b, o) ∧ rdS H b o = some l[i] ∧ b < H.length ∧ s.p = some (b, o - i) := by
  have hl := h.len
  simp at hl
  obtain ⟨b, o, hp, h1, cs, bk, h2, h3, h4⟩ := slRow_cell h.row (i := i) (by omega) h.nil
  refine ⟨b, o + i, by simpa using h1, rdS_of h2 ?_, get_lt h2, by rw [hp]; simp⟩
  have := h4 0 (by decide)
  simp only [Nat.mul_one, Nat.add_zero] at this
  rw [this]
  simp [hi]
theorem Row.txt_len {H : Heap} {s : Sl} {l : List Bytes} (h : Row H 1 s (l.map C.str)) : s.len = l.length := by
  have hl := h.len
  simp at hl; omega
end Ev

/- Checkpoints: the texts of pages that were found. -/
namespace Ev
open Go (IntKind)

theorem texts_eq {H : Heap} {s : Sl} {L : List F8} (hs : Row H 8 s (rowsF L)) (hLl : L.length < 1000000) :
    ∃ t G, ckpt_Texts s H = some ((t, ()), G) ∧ GrowN H G 1 t ((L.map fun x => x.2.2.2.2.2.2.2.1).map C.str) := by
  have hsl := found_len hs
  unfold ckpt_Texts ckpt_each_api_Found_string_of_ckpt_Texts_1
  obtain ⟨u, G, l1, t, rfl, g⟩ := loop_rise (step := ckpt_each_api_Found_string_of_ckpt_Texts_1.s1 s) L.length (fun i y G => ∃ t, y = (t, (i : Int), ()) ∧ t.len = i ∧ GrowN H G 1 t (((L.take i).map fun x => x.2.2.2.2.2.2.2.1).map C.str)) (fun y G => ∃ t, y = (t, ()) ∧ GrowN H G 1 t ((L.map fun x => x.2.2.2.2.2.2.2.1).map C.str))
    (by
      rintro i _ G hi ⟨t, rfl, ht, g⟩
      refine .inl ?_
      obtain ⟨b, o, a1, ⟨o', a2⟩, fa⟩ := found_at hs hi
      have fg : FAt G b o L[i] := by
        obtain ⟨cs, bk, h1, h2⟩ := fa
        exact ⟨cs, bk, g.keep.get h1 (fun h => h), h2⟩
      have e0 := fg.all
      let G1 : Heap := G ++ [.cells (fC L[i]) .exact]
      have w1 : wr (G ++ [Blk.cells [.int .i64 0, .int .i64 0, .int .i64 0, .int .u64 0, .int .i64 0, .int .i64 0, .int .i64 0, .str []] .exact]) G.length 0 (fC L[i]) = some G1 := by
        rw [wr_last (by decide) (by simp)]; rfl
      have e1 : @Eq (Option F8) (rd G1 (.agg [.int .i64, .int .i64, .int .i64, .int .u64, .int .i64, .int .i64, .int .i64, .str]) G.length 0) (some L[i]) := (f_last (H := G) (x := L[i])).all
      have e2 : ckpt_Texts_1 (L[i].1, L[i].2.1, L[i].2.2.1, L[i].2.2.2.1, L[i].2.2.2.2.1, L[i].2.2.2.2.2.1, L[i].2.2.2.2.2.2.1, L[i].2.2.2.2.2.2.2.1, ()) = some (L[i].2.2.2.2.2.2.2.1, ()) := rfl
      have hlen : decide ((i : Int) < (s.len : Int)) = true := decide_eq_true (by omega)
      have hsu := wrap_succ (show i < 9223372036854775807 by omega)
      obtain ⟨t', G2, b1, b2, b3, b4, _⟩ := (g.more (.cells (fC L[i]) .exact)).one (bytes := 16) (new := [.str L[i].2.2.2.2.2.2.2.1]) (by decide) rfl (by omega) (by omega)
      have b1' : slRow (G1 ++ [.cells [.str L[i].2.2.2.2.2.2.2.1] .exact]) 1 ⟨some (G1.length, 0), 1, 1⟩ = some [.str L[i].2.2.2.2.2.2.2.1] := b1
      have b2' : appS (G1 ++ [.cells [.str L[i].2.2.2.2.2.2.2.1] .exact]) 1 16 t 1 [.str L[i].2.2.2.2.2.2.2.1] = some (t', G2) := b2
      refine ⟨_, G2, ?_, t', rfl, by omega, ?_⟩
      · unfold ckpt_each_api_Found_string_of_ckpt_Texts_1.s1
        simp only [hlen, cond_t, a1, bind_some, e0, w1, e1, e2, b1', b2', hsu]
      · rw [List.take_succ_eq_append_getElem hi, List.map_append, List.map_append]
        exact b3)
    (by
      rintro _ G ⟨t, rfl, ht, g⟩
      refine ⟨_, G, ?_, t, rfl, by rwa [List.take_length] at g⟩
      unfold ckpt_each_api_Found_string_of_ckpt_Texts_1.s1
      simp only [decide_eq_false (show ¬ ((L.length : Nat) : Int) < (s.len : Int) by omega), cond_f])
    (y := (⟨none, 0, 0⟩, ((0 : Nat) : Int), ())) (H := H) ⟨_, rfl, rfl, GrowN.ni (Keep.refl _ _) 1⟩
  have l1' : loopW (ckpt_each_api_Found_string_of_ckpt_Texts_1.s1 s) (⟨none, 0, 0⟩, 0, ()) H = some ((t, ()), G) := l1
  exact ⟨t, G, by simp only [l1', bind_some], g⟩
end Ev

/- The check of bytes (CRC-32C) on natural numbers: bit by bit from the lowest bit on, the same turned round, and what a burst of four bytes does to it. -/
namespace Ev

/-- One bit. -/
def cbit (c : Nat) : Nat := if c % 2 = 1 then (c / 2) ^^^ 0x82f63b78 else c / 2
def cbits : Nat → Nat → Nat
  | 0, c => c
  | n + 1, c => cbits n (cbit c)
def cbyte (c : Nat) (b : Nat) : Nat := cbits 8 (c ^^^ b)
def crun (c : Nat) (l : List Nat) : Nat := l.foldl cbyte c

theorem xor_lt32 {a b : Nat} (ha : a < 4294967296) (hb : b < 4294967296) : a ^^^ b < 4294967296 := Nat.xor_lt_two_pow (n := 32) ha hb
theorem cbit_lt {c : Nat} (h : c < 4294967296) : cbit c < 4294967296 := by
  unfold cbit
  split
  · exact xor_lt32 (by omega) (by decide)
  · omega
theorem cbits_lt : ∀ {n c : Nat}, c < 4294967296 → cbits n c < 4294967296
  | 0, _, h => h
  | n + 1, c, h => cbits_lt (n := n) (cbit_lt h)
theorem cbyte_lt {c b : Nat} (h : c < 4294967296) (hb : b < 4294967296) : cbyte c b < 4294967296 := cbits_lt (xor_lt32 h hb)
theorem crun_lt : ∀ {l : List Nat} {c : Nat}, c < 4294967296 → (∀ b ∈ l, b < 256) → crun c l < 4294967296
  | [], _, h, _ => h
  | b :: l, c, h, hl => by
    show crun (cbyte c b) l < _
    exact crun_lt (cbyte_lt h (Nat.lt_trans (hl b (by simp)) (by decide))) (fun x hx => hl x (by simp [hx]))

/-! Linear. -/
theorem div2_xor (a b : Nat) : (a ^^^ b) / 2 = a / 2 ^^^ b / 2 := by
  have h := Nat.shiftRight_xor_distrib (a := a) (b := b) (i := 1)
  simpa [Nat.shiftRight_eq_div_pow] using h
theorem mod2_xor (a b : Nat) : (a ^^^ b) % 2 = (a % 2 + b % 2) % 2 := by
  have h := Nat.testBit_xor a b 0
  simp only [Nat.testBit_zero] at h
  have ha := Nat.mod_two_eq_zero_or_one a
  have hb := Nat.mod_two_eq_zero_or_one b
  have hc := Nat.mod_two_eq_zero_or_one (a ^^^ b)
  rcases ha with ha | ha <;> rcases hb with hb | hb <;> rcases hc with hc | hc <;> simp [ha, hb, hc] at h ⊢
theorem cbit_xor (a b : Nat) : cbit (a ^^^ b) = cbit a ^^^ cbit b := by
  unfold cbit
  rw [mod2_xor, div2_xor]
  rcases Nat.mod_two_eq_zero_or_one a with ha | ha <;> rcases Nat.mod_two_eq_zero_or_one b with hb | hb <;> simp only [ha, hb]
  · rfl
  · simp [Nat.xor_assoc]
  · simp only [Nat.add_zero, Nat.one_mod, if_true, Nat.zero_ne_one, if_false]
    rw [Nat.xor_assoc, Nat.xor_comm (b / 2), ← Nat.xor_assoc]
  · simp only [Nat.reduceAdd, Nat.reduceMod, Nat.zero_ne_one, if_false, if_true]
    rw [Nat.xor_comm (b / 2) _, ← Nat.xor_assoc, Nat.xor_assoc (a / 2), Nat.xor_self, Nat.xor_zero]
theorem cbits_xor : ∀ (n a b : Nat), cbits n (a ^^^ b) = cbits n a ^^^ cbits n b
  | 0, _, _ => rfl
  | n + 1, a, b => by show cbits n (cbit (a ^^^ b)) = _; rw [cbit_xor, cbits_xor n]; rfl
theorem cbit_zero {c : Nat} (h : c < 4294967296) (hz : cbit c = 0) : c = 0 := by
  unfold cbit at hz
  split at hz
  · rename_i h1
    exfalso
    have : (c / 2 ^^^ 0x82f63b78).testBit 31 = true := by
      rw [Nat.testBit_xor]
      have e : (c / 2).testBit 31 = false := Nat.testBit_lt_two_pow (by omega)
      rw [e]; decide
    rw [hz] at this
    simp at this
  · omega
theorem cbits_zero : ∀ {n c : Nat}, c < 4294967296 → cbits n c = 0 → c = 0
  | 0, _, _, h => h
  | n + 1, c, h, hz => cbit_zero h (cbits_zero (n := n) (cbit_lt h) hz)
theorem xor_eq_zero {a b : Nat} : a ^^^ b = 0 ↔ a = b := by
  constructor
  · intro h
    have : a ^^^ b ^^^ b = 0 ^^^ b := by rw [h]
    rw [Nat.xor_assoc, Nat.xor_self, Nat.xor_zero, Nat.zero_xor] at this
    exact this
  · rintro rfl; exact Nat.xor_self _
theorem cbits_inj {n a b : Nat} (ha : a < 4294967296) (hb : b < 4294967296) (h : cbits n a = cbits n b) : a = b := by
  have := cbits_xor n a b
  rw [h, Nat.xor_self] at this
  exact xor_eq_zero.1 (cbits_zero (xor_lt32 ha hb) this)
theorem cbits_shift : ∀ (n e : Nat), cbits n (e * 2 ^ n) = e
  | 0, e => by simp [cbits]
  | n + 1, e => by
    show cbits n (cbit (e * 2 ^ (n + 1))) = e
    have h : cbit (e * 2 ^ (n + 1)) = e * 2 ^ n := by
      unfold cbit
      have : e * 2 ^ (n + 1) = e * 2 ^ n * 2 := by rw [Nat.pow_succ, Nat.mul_assoc]
      rw [this, if_neg (by omega)]; omega
    rw [h, cbits_shift n e]

/-! A burst. -/
theorem cbyte_xor (c d b e : Nat) : cbyte (c ^^^ d) (b ^^^ e) = cbyte c b ^^^ cbyte d e := by
  unfold cbyte
  rw [← cbits_xor]
  congr 1
  rw [Nat.xor_assoc, Nat.xor_assoc, ← Nat.xor_assoc d b e, Nat.xor_comm d b, Nat.xor_assoc b d e]
theorem cbyte_eq {d e : Nat} (hd : d < 4294967296) (he : e < 256) (h : cbyte d e < 16777216) : d = e ^^^ (cbyte d e * 256) := by
  have h1 : cbits 8 (cbyte d e * 256) = cbyte d e := cbits_shift 8 _
  have h2 : d ^^^ e = cbyte d e * 256 := cbits_inj (n := 8) (xor_lt32 hd (by omega)) (by omega) (by rw [h1]; rfl)
  rw [← h2, Nat.xor_comm d e, ← Nat.xor_assoc, Nat.xor_self, Nat.zero_xor]

/-- Difference of two runs over rows of one length. -/
def drun (d : Nat) (l : List Nat) : Nat := crun d l
theorem crun_xor : ∀ (l m : List Nat) (c d : Nat), l.length = m.length → crun c l ^^^ crun d m = crun (c ^^^ d) (List.zipWith (· ^^^ ·) l m)
  | [], [], _, _, _ => rfl
  | b :: l, e :: m, c, d, h => by
    show crun (cbyte c b) l ^^^ crun (cbyte d e) m = crun (cbyte (c ^^^ d) (b ^^^ e)) _
    rw [cbyte_xor]
    exact crun_xor l m _ _ (by simpa using h)
  | [], _ :: _, _, _, h => by simp at h
  | _ :: _, [], _, _, h => by simp at h
theorem crun_inj : ∀ {l : List Nat} {c d : Nat}, c < 4294967296 → d < 4294967296 → (∀ b ∈ l, b < 256) → crun c l = crun d l → c = d
  | [], _, _, _, _, _, h => h
  | b :: l, c, d, hc, hd, hl, h => by
    have hb : b < 256 := hl b (by simp)
    have h1 : cbyte c b = cbyte d b := crun_inj (l := l) (cbyte_lt hc (by omega)) (cbyte_lt hd (by omega)) (fun x hx => hl x (by simp [hx])) h
    have h2 := cbits_inj (n := 8) (xor_lt32 hc (by omega)) (xor_lt32 hd (by omega)) h1
    have : c ^^^ b ^^^ b = d ^^^ b ^^^ b := by rw [h2]
    simpa [Nat.xor_assoc] using this

/-- Up to four bytes, of which the first is not nothing, leave something. -/
theorem burst {e : Nat} (l : List Nat) (he : e < 256) (h0 : e ≠ 0) (hl : ∀ b ∈ l, b < 256) (hn : l.length ≤ 3) : crun 0 (e :: l) ≠ 0 := by
  intro hz
  -- from the end: the register ahead of k more bytes is below 256 ^ k
  have key : ∀ (l : List Nat) (d : Nat), l.length ≤ 3 → (∀ b ∈ l, b < 256) → d < 4294967296 → crun d l = 0 → d < 256 ^ l.length := by
    intro l
    induction l with
    | nil => intro d _ _ _ h; have h : d = 0 := h; subst h; decide
    | cons x l ih =>
      intro d hn hb hd h
      have hx : x < 256 := hb x (by simp)
      have h1 := ih (cbyte d x) (by simp at hn; omega) (fun y hy => hb y (by simp [hy])) (cbyte_lt hd (by omega)) h
      have hn' : l.length ≤ 2 := by simp at hn; omega
      have hp : 256 ^ l.length ≤ 65536 := by
        have : 256 ^ l.length ≤ 256 ^ 2 := Nat.pow_le_pow_right (by decide) hn'
        simpa using this
      have h2 := cbyte_eq hd hx (by omega)
      rw [h2, List.length_cons, Nat.pow_succ]
      have e1 : (256 : Nat) ^ l.length * 256 = 2 ^ (8 * l.length + 8) := by
        rw [show (256 : Nat) = 2 ^ 8 from rfl, ← Nat.pow_mul, ← Nat.pow_add]
      rw [e1]
      refine Nat.xor_lt_two_pow ?_ ?_
      · exact Nat.lt_of_lt_of_le hx (by rw [show (256 : Nat) = 2 ^ 8 from rfl]; exact Nat.pow_le_pow_right (by decide) (by omega))
      · rw [← e1]; exact Nat.mul_lt_mul_of_pos_right h1 (by decide)
  have h1 := key l (cbyte 0 e) hn hl (cbyte_lt (by decide) (by omega)) hz
  have hp : 256 ^ l.length ≤ 16777216 := by
    have : 256 ^ l.length ≤ 256 ^ 3 := Nat.pow_le_pow_right (by decide) hn
    simpa using this
  have h2 := cbyte_eq (d := 0) (by decide) he (by omega)
  have h3 : e = cbyte 0 e * 256 := (xor_eq_zero.1 h2.symm)
  omega

/-- The check's own four bytes. -/
theorem crun_le {c : Nat} (hc : c < 4294967296) (w : Nat) (hw : w < 4294967296) :
    crun c [w % 256, w / 256 % 256, w / 65536 % 256, w / 16777216 % 256] = cbits 32 (c ^^^ w) := by
  have add : ∀ (m n x : Nat), cbits (m + n) x = cbits n (cbits m x) := by
    intro m
    induction m with
    | zero => intro n x; rw [Nat.zero_add]; rfl
    | succ m ih => intro n x; rw [Nat.succ_add]; exact ih n (cbit x)
  have split : ∀ w, w = w % 256 ^^^ (w / 256 * 256) := by
    intro w
    apply Nat.eq_of_testBit_eq
    intro i
    rw [Nat.testBit_xor, show (256 : Nat) = 2 ^ 8 from rfl, Nat.testBit_mod_two_pow, Nat.testBit_mul_two_pow, Nat.testBit_div_two_pow]
    by_cases h : i < 8
    · simp [h, show ¬ 8 ≤ i by omega]
    · have : 8 ≤ i := by omega
      simp [h, this, show i - 8 + 8 = i by omega]
  have one : ∀ (c w : Nat), cbits 8 (c ^^^ w) = cbyte c (w % 256) ^^^ (w / 256) := by
    intro c w
    have e : c ^^^ w = (c ^^^ w % 256) ^^^ (w / 256 * 2 ^ 8) := by
      rw [Nat.xor_assoc, show w % 256 ^^^ w / 256 * 2 ^ 8 = w from (split w).symm]
    rw [e, cbits_xor, cbits_shift]; rfl
  rw [show (32 : Nat) = 8 + (8 + (8 + 8)) from rfl, add, one, add, one, add, one, one]
  have e1 : w / 256 / 256 = w / 65536 := by omega
  have e2 : w / 65536 / 256 = w / 16777216 := by omega
  have e3 : w / 16777216 / 256 = 0 := by omega
  rw [e1, e2, e3, Nat.xor_zero]; rfl
end Ev

/- Numbers in so many bytes: code.Fixed, code.value and the reader tell what the references tell. -/
namespace Ev
open Go (IntKind)

/-- A number in k bytes, the lowest first. -/
def leB : Nat → Nat → Bytes
  | 0, _ => []
  | k + 1, n => UInt8.ofNat (n % 256) :: leB k (n / 256)
theorem leB_length : ∀ (k n : Nat), (leB k n).length = k
  | 0, _ => rfl
  | k + 1, n => by simp [leB, leB_length k]
theorem leB_snoc : ∀ (k n : Nat), leB (k + 1) n = leB k n ++ [UInt8.ofNat (n / 256 ^ k % 256)]
  | 0, n => by simp [leB]
  | k + 1, n => by
    rw [leB, leB_snoc k, leB, Nat.div_div_eq_div_mul, List.cons_append, Nat.pow_succ, Nat.mul_comm 256]
/-- The number that bytes are. -/
def valB : Bytes → Nat
  | [] => 0
  | b :: s => b.toNat + 256 * valB s
theorem valB_lt : ∀ (s : Bytes), valB s < 256 ^ s.length
  | [] => by simp [valB]
  | b :: s => by
    have h1 := valB_lt s
    have h2 := b.toNat_lt
    rw [valB, List.length_cons, Nat.pow_succ]; omega
theorem valB_leB : ∀ (k n : Nat), n < 256 ^ k → valB (leB k n) = n
  | 0, n, h => by simp at h; simp [leB, valB, h]
  | k + 1, n, h => by
    rw [Nat.pow_succ] at h
    rw [leB, valB, valB_leB k _ (Nat.div_lt_of_lt_mul (by rw [Nat.mul_comm]; exact h))]
    have : (UInt8.ofNat (n % 256)).toNat = n % 256 := by simp
    rw [this]; omega
theorem leB_valB : ∀ (s : Bytes), leB s.length (valB s) = s
  | [] => rfl
  | b :: s => by
    have h2 := b.toNat_lt
    rw [List.length_cons, leB, valB]
    rw [show (b.toNat + 256 * valB s) % 256 = b.toNat by omega, show (b.toNat + 256 * valB s) / 256 = valB s by omega, leB_valB s]
    simp
theorem pow256 {k : Nat} (h : k ≤ 8) : 256 ^ k ≤ 18446744073709551616 := by
  have : 256 ^ k ≤ 256 ^ 8 := Nat.pow_le_pow_right (by decide) h
  simpa using this

theorem cells_snoc (s : Bytes) (b : UInt8) : cellsOf s ++ [.int .u8 (b.toNat : Int)] = cellsOf (s ++ [b]) := by simp [cellsOf]

theorem code_Fixed_eq (n k : Nat) (hn : n < 18446744073709551616) (hk : k ≤ 8) : code_Fixed (n : Int) (k : Int) = some (leB k n, ()) := by
  unfold code_Fixed code_Fixed.on
  obtain ⟨x, H', h1, h2⟩ := loopW_run (step := code_Fixed.s1 (n : Int) (k : Int)) (fun s H => ∃ i : Nat, i ≤ k ∧ s.2.1 = (i : Int) ∧ s.1.len = i ∧ Grown H 1 s.1 (cellsOf (leB i n))) (fun x H => Grown H 1 x.1 (cellsOf (leB k n))) (fun s _ => k - s.2.1.toNat)
    (by
      rintro ⟨s, j, u⟩ H ⟨i, hi, hj, hl, hg⟩
      have hj : j = (i : Int) := hj
      subst hj
      have hg : Grown H 1 s (cellsOf (leB i n)) := hg
      have hl : s.len = i := hl
      unfold code_Fixed.s1
      have hm : (if (8 : Int) < (if (0 : Int) > (k : Int) then 0 else (k : Int)) then 8 else (if (0 : Int) > (k : Int) then 0 else (k : Int))) = (k : Int) := by
        rw [if_neg (by omega), if_neg (by omega)]
      simp only [hm]
      by_cases hlt : i < k
      · have hd : decide ((i : Int) < (k : Int)) = true := decide_eq_true (by omega)
        have hw : IntKind.wrap .i64 (8 * (i : Int)) = ((8 * i : Nat) : Int) := by rw [wrap_i64 (by omega) (by omega)]; omega
        have hd2 : decide (((8 * i : Nat) : Int) < 0) = false := decide_eq_false (by omega)
        have hsh : IntKind.wrap .u8 (Int.fdiv (n : Int) (2 ^ (min (Int.toNat ((8 * i : Nat) : Int)) (IntKind.bits .u64)))) = (((UInt8.ofNat (n / 256 ^ i % 256)).toNat : Nat) : Int) := by
          rw [Int.toNat_natCast, show min (8 * i) (IntKind.bits .u64) = 8 * i by show min (8 * i) 64 = 8 * i; omega, shr_nat, wrap_u8, Nat.shiftRight_eq_div_pow, Nat.pow_mul]
          have : (UInt8.ofNat (n / 256 ^ i % 256)).toNat = n / 256 ^ i % 256 := by simp
          rw [this]; show ((n / 256 ^ i : Nat) : Int) % 256 = _; omega
        simp only [hd, cond_t, hw, hd2, cond_f, hsh]
        rw [row_last (by rfl), bind_some]
        obtain ⟨a1, a2⟩ := (hg.push (Blk.cells [.int .u8 (((UInt8.ofNat (n / 256 ^ i % 256)).toNat : Nat) : Int)] .exact)).app (bytes := 1) (by decide) (n := 1) (new := [.int .u8 (((UInt8.ofNat (n / 256 ^ i % 256)).toNat : Nat) : Int)]) (by decide) rfl (by omega) (by omega)
        rw [a1, bind_some]
        simp only [wrap_succ (show i < 9223372036854775807 by omega), Round]
        refine ⟨⟨i + 1, by omega, rfl, by simp [hl], ?_⟩, by simp; omega⟩
        rw [leB_snoc, ← cells_snoc]
        exact a2
      · have : i = k := by omega
        subst this
        have hd : decide ((i : Int) < (i : Int)) = false := decide_eq_false (by omega)
        simp only [hd, cond_f, Round]
        exact hg) (⟨none, 0, 0⟩, 0, ()) [] ⟨0, Nat.zero_le _, rfl, rfl, Grown.ni [] 1⟩
  rw [h1, bind_some]
  simp only [h2.str, bind_some]

theorem or_add {a b k : Nat} (h : b < 2 ^ k) : a * 2 ^ k ||| b = a * 2 ^ k + b := by
  rw [Nat.mul_comm]; exact (Nat.two_pow_add_eq_or_of_lt h a).symm

theorem value_step (s : Bytes) (i : Nat) (hi : i < s.length) : valB (s.drop i) = s[i].toNat + 256 * valB (s.drop (i + 1)) := by
  rw [List.drop_eq_getElem_cons hi]; rfl

theorem code_value_eq (s : Bytes) (hs : s.length ≤ 8) : code_value s = some (((valB s : Nat) : Int), ()) := by
  unfold code_value code_value.on
  have hl : loopW (code_value.s1 s) (0, (IntKind.wrap .i64 ((List.length (s : Bytes) : Int) - 1)), ()) [] = some ((((valB s : Nat) : Int), ()), []) := by
    refine loop_for' s.length (fun i => (((valB (s.drop (s.length - i)) : Nat) : Int), (s.length : Int) - 1 - (i : Int), ())) (fun _ => []) (by simp [valB, wrap_i64 (show -9223372036854775808 ≤ (s.length : Int) - 1 by omega) (by omega)]) rfl ?_ ?_
    · intro i hi
      unfold code_value.s1
      have hd : decide (0 ≤ (s.length : Int) - 1 - (i : Int)) = true := decide_eq_true (by omega)
      have hix : (s.length : Int) - 1 - (i : Int) = ((s.length - 1 - i : Nat) : Int) := by omega
      have hlt : s.length - 1 - i < s.length := by omega
      have hv := valB_lt (s.drop (s.length - i))
      have hb := s[s.length - 1 - i].toNat_lt
      have hdl : (s.drop (s.length - i)).length = i := by simp; omega
      rw [hdl] at hv
      have hp := pow256 (show i + 1 ≤ 8 by omega)
      rw [Nat.pow_succ] at hp
      have e1 : IntKind.wrap .u64 (((valB (s.drop (s.length - i)) : Nat) : Int) * 2 ^ (min (Int.toNat 8) (IntKind.bits .u64))) = ((valB (s.drop (s.length - i)) * 2 ^ 8 : Nat) : Int) := by
        rw [show min (Int.toNat 8) (IntKind.bits .u64) = 8 from rfl, wrap_u64]; omega
      have e2 : IntKind.wrap .u64 ((s[s.length - 1 - i].toNat : Nat) : Int) = ((s[s.length - 1 - i].toNat : Nat) : Int) := by rw [wrap_u64]; omega
      have e3 : IntKind.wrap .i64 (((s.length - 1 - i : Nat) : Int) - 1) = (s.length : Int) - 1 - ((i + 1 : Nat) : Int) := by rw [wrap_i64 (by omega) (by omega)]; omega
      simp only [hd, cond_t]
      rw [hix, idx_of hlt, bind_some, e1, e2, or64 (by omega) (by omega), or_add (by omega), e3]
      have e4 : s.length - 1 - i + 1 = s.length - i := by omega
      have hvs := value_step s (s.length - 1 - i) hlt
      rw [e4] at hvs
      rw [show s.length - (i + 1) = s.length - 1 - i by omega, hvs, Nat.add_comm, Nat.mul_comm]
    · unfold code_value.s1
      have hd : decide (0 ≤ (s.length : Int) - 1 - (s.length : Int)) = false := decide_eq_false (by omega)
      simp only [hd, cond_f, Nat.sub_self, List.drop_zero]
  rw [hl]; rfl

/-! The reader: a block with the bytes that are left, and the first error. -/
def rdr (s : Bytes) (e : Int) : Blk := .cells [.str s, .int .i64 e] .exact
theorem rdr_s {H : Heap} {b : Nat} {s : Bytes} {e : Int} (h : H[b]? = some (rdr s e)) : rdS H b 0 = some s := rdS_of h rfl
theorem rdr_e {H : Heap} {b : Nat} {s : Bytes} {e : Int} (h : H[b]? = some (rdr s e)) : rdI .i64 H b 1 = some e := rdI_of h rfl

theorem code_New_eq (s : Bytes) (H : Heap) : code_New s H = some ((some (H.length, 0), ()), H ++ [rdr s 0]) := rfl

theorem code_Bytes_eq {H : Heap} {b : Nat} {s : Bytes} (h : H[b]? = some (rdr s 0)) {n : Nat} (hn : n ≤ s.length) :
    code_Reader_Bytes (some (b, 0)) (n : Int) H = some ((s.take n, ()), H.set b (rdr (s.drop n) 0)) := by
  unfold code_Reader_Bytes code_Reader_Err
  have d1 : decide ((n : Int) < 0) = false := decide_eq_false (by omega)
  have d2 : decide ((s.length : Int) < (n : Int)) = false := decide_eq_false (by omega)
  have hw : wr H b 0 [.str ((s.take s.length).drop n)] = some (H.set b (rdr (s.drop n) 0)) := by
    rw [wr1_of h (by decide) (by simp)]; simp [rdr]
  simp only [Option.isNone_some, cond_f, bind_some, Nat.zero_add, rdr_e h, decide_true, Bool.not_true, d1, rdr_s h, d2]
  rw [show (0 : Int) = ((0 : Nat) : Int) from rfl, sub_of (Nat.zero_le _) hn, bind_some, sub_of hn (Nat.le_refl _), bind_some, hw]
  rfl
theorem code_RFixed_eq {H : Heap} {b : Nat} {s : Bytes} (h : H[b]? = some (rdr s 0)) {n : Nat} (hn : n ≤ s.length) (h8 : n ≤ 8) :
    code_Reader_Fixed (some (b, 0)) (n : Int) H = some ((((valB (s.take n) : Nat) : Int), ()), H.set b (rdr (s.drop n) 0)) := by
  unfold code_Reader_Fixed
  have hm : (if (8 : Int) < (if (0 : Int) > (n : Int) then 0 else (n : Int)) then 8 else (if (0 : Int) > (n : Int) then 0 else (n : Int))) = (n : Int) := by
    rw [if_neg (by omega), if_neg (by omega)]
  rw [hm, code_Bytes_eq h hn, bind_some, code_value_eq _ (by simp; omega), bind_some]
end Ev
