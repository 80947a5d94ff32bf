/- The law StateBlocks. -/
import Derived.Test.YtfmefnejaocopaaSAwk8
set_option linter.unusedSimpArgs false
set_option linter.unusedVariables false
namespace Ev
open Go (IntKind)

/-! What a record does to the lists of bad blocks and of wear. -/
theorem open_bd (st : Sta) (id q : Int) (P : List (Int × Int)) : (st.openS id q P).2.bd = st.bd ∧ (st.openS id q P).2.wn = st.wn := by unfold Sta.openS; split <;> exact ⟨rfl, rfl⟩
theorem move_bd (st : Sta) (f t : Int) : (st.moveS f t).2.bd = st.bd ∧ (st.moveS f t).2.wn = st.wn := by
  unfold Sta.moveS
  split
  · exact ⟨rfl, rfl⟩
  · split <;> exact ⟨rfl, rfl⟩
theorem apply_bd (st : Sta) (x : RecT) : (x.1 = 8 → st.applyS x = (0, ⟨st.sp, st.lv, ains st.bd x.2.2.2.1 (), st.wn⟩)) ∧
    (x.1 = 9 → st.applyS x = (0, ⟨st.sp, st.lv, st.bd, ains st.wn x.2.2.2.1 (if x.2.2.2.2.2.1 > (afind st.wn x.2.2.2.1).getD 0 then x.2.2.2.2.2.1 else (afind st.wn x.2.2.2.1).getD 0)⟩)) ∧
    (x.1 ≠ 8 → x.1 ≠ 9 → (st.applyS x).2.bd = st.bd ∧ (st.applyS x).2.wn = st.wn) := by
  refine ⟨fun e => ?_, fun e => ?_, fun h8 h9 => ?_⟩
  · unfold Sta.applyS
    rw [if_neg (by omega), if_neg (by omega), if_pos e]
  · unfold Sta.applyS
    rw [if_neg (by omega), if_neg (by omega), if_neg (by omega), if_pos e]
  · unfold Sta.applyS
    split
    · exact open_bd _ _ _ _
    · split
      · exact move_bd _ _ _
      · split
        · exact ⟨rfl, rfl⟩
        · split
          · split
            · exact ⟨rfl, rfl⟩
            · split <;> exact ⟨rfl, rfl⟩
          · split
            · split <;> exact ⟨rfl, rfl⟩
            · split
              · exact ⟨rfl, rfl⟩
              · split
                · exact open_bd _ _ _ _
                · exact ⟨rfl, rfl⟩
def bdc (l : List (Int × Unit)) : Nat → Nat
  | 0 => 0
  | n + 1 => bdc l n + if (afind l (n : Int)).isSome = true then 1 else 0
theorem bdc_drop {l : List (Int × Unit)} (h : Asc l) (n : Nat) : ∀ m, m ≤ n → bdc (adrop l (n : Int)) m = bdc l m
  | 0, _ => rfl
  | m + 1, hm => by
    have e : afind (adrop l (n : Int)) (m : Int) = afind l (m : Int) := by rw [afind_drop h, if_neg (by omega)]
    rw [bdc, bdc, bdc_drop h n m (by omega), e]
theorem bdc_len : ∀ (n : Nat) {l : List (Int × Unit)}, Asc l → (∀ x ∈ l, 0 ≤ x.1 ∧ x.1 < n) → bdc l n = l.length
  | 0, l, _, hb => by
    cases l with
    | nil => rfl
    | cons x l => have := hb x (by simp); omega
  | n + 1, l, h, hb => by
    rw [bdc, ← bdc_drop h n n (Nat.le_refl n), bdc_len n (h.drop _) fun x hx => by
      have h1 := hb x ((adrop_sub _ _).subset hx)
      have h2 : x.1 ≠ (n : Int) := fun e => by
        have := (h.drop (n : Int)).find (k := x.1) (v := x.2) hx
        rw [e, afind_drop h, if_pos rfl] at this; cases this
      omega]
    exact adrop_length
theorem rep_arr (n : Nat) (z : List C) : rep n z = arrC n (fun _ => z) := by
  induction n with
  | zero => rfl
  | succ n ih =>
    rw [arrC, ← ih]
    unfold rep
    rw [List.replicate_succ', List.flatten_append]; simp
theorem mkS_of {H : Heap} {bytes : Nat} {zero : List C} {n : Nat} (h : n * bytes ≤ 35184372088832) (h2 : n ≤ 35184372088832) : mkS H bytes zero (n : Int) (n : Int) = some (⟨some (H.length, 0), n, n⟩, H ++ [.cells (arrC n fun _ => zero) .exact]) := by
  unfold mkS
  have : decide (0 ≤ (n : Int) ∧ (n : Int) ≤ (n : Int) ∧ (n : Int).toNat * bytes ≤ maxRow ∧ (n : Int).toNat ≤ maxRow) = true := decide_eq_true ⟨by omega, Int.le_refl _, by rw [Int.toNat_natCast]; exact h, by rw [Int.toNat_natCast]; exact h2⟩
  rw [this, cond_t, Int.toNat_natCast, rep_arr]
/-- Which are bad, how often each was erased. -/
def bdA (l : List (Int × Unit)) : List C := arrC 32 fun i => [.bool (afind l (i : Int)).isSome]
def wnA (l : List (Int × Int)) : List C := arrC 32 fun i => [.int .i64 ((afind l (i : Int)).getD 0)]
theorem cell_arr {f : Nat → C} {i : Nat} (hi : i < 32) : (arrC 32 fun i => [f i])[i]? = some (f i) := by
  have := arrC_get (f := fun i => [f i]) (es := 1) (fun _ => rfl) (i := i) (j := 0) (by decide) hi
  simpa using this
theorem set_arr {f : Nat → C} {i : Nat} (v : C) (hi : i < 32) : (arrC 32 fun i => [f i]).set i v = arrC 32 fun k => [if k = i then v else f k] := by
  have := arrC_set (f := fun i => [f i]) (es := 1) (fun _ => rfl) (i := i) (j := 0) (by decide) v hi
  rw [Nat.mul_one, Nat.add_zero] at this
  rw [this]
  exact arrC_congr fun k _ => by
    by_cases e : k = i
    · rw [if_pos e, if_pos e]; rfl
    · rw [if_neg e, if_neg e]
theorem bdA_len (l : List (Int × Unit)) : (bdA l).length = 32 := arrC_length (es := 1) (fun _ => rfl) 32
theorem wnA_len (l : List (Int × Int)) : (wnA l).length = 32 := arrC_length (es := 1) (fun _ => rfl) 32
theorem bdA_get (l : List (Int × Unit)) {i : Nat} (hi : i < 32) : (bdA l)[i]? = some (.bool (afind l (i : Int)).isSome) := cell_arr (f := fun i => .bool (afind l (i : Int)).isSome) hi
theorem wnA_get (l : List (Int × Int)) {i : Nat} (hi : i < 32) : (wnA l)[i]? = some (.int .i64 ((afind l (i : Int)).getD 0)) := cell_arr (f := fun i => .int .i64 ((afind l (i : Int)).getD 0)) hi
theorem bdA_set {l : List (Int × Unit)} (h : Asc l) {m : Nat} (hm : m < 32) : (bdA l).set m (.bool true) = bdA (ains l (m : Int) ()) := by
  unfold bdA
  rw [set_arr (f := fun i => .bool (afind l (i : Int)).isSome) _ hm]
  refine arrC_congr fun j _ => ?_
  rw [afind_ins h]
  by_cases e : j = m
  · rw [if_pos e, if_pos (by rw [e])]; rfl
  · rw [if_neg e, if_neg (by omega)]
theorem wnA_set {l : List (Int × Int)} (h : Asc l) {m : Nat} (hm : m < 32) (n : Int) : (wnA l).set m (.int .i64 n) = wnA (ains l (m : Int) n) := by
  unfold wnA
  rw [set_arr (f := fun i => .int .i64 ((afind l (i : Int)).getD 0)) _ hm]
  refine arrC_congr fun j _ => ?_
  rw [afind_ins h]
  by_cases e : j = m
  · rw [if_pos e, if_pos (by rw [e])]; rfl
  · rw [if_neg e, if_neg (by omega)]
theorem wnA_same {l : List (Int × Int)} (h : Asc l) (m : Nat) : wnA (ains l (m : Int) ((afind l (m : Int)).getD 0)) = wnA l := by
  unfold wnA
  refine arrC_congr fun j _ => ?_
  rw [afind_ins h]
  by_cases e : j = m
  · rw [if_pos (by rw [e]), e]; rfl
  · rw [if_neg (by omega)]
/-- The two arrays beside a state. -/
structure Blks (G : Heap) (B : Nat) (a : SaA) (st : Sta) : Prop where
  s : StAt G a st
  b : G[B]? = some (.cells (bdA st.bd) .exact)
  w : G[B + 1]? = some (.cells (wnA st.wn) .exact)
  off : ∀ b, a.fp st b → B + 2 ≤ b
theorem Res.off {H G : Heap} {a a' : SaA} {st st' : Sta} (r : Res H a st G a' st') {n : Nat} (h : ∀ b, a.fp st b → n ≤ b) (hn : n ≤ H.length) : ∀ b, a'.fp st' b → n ≤ b := fun b hb => (r.n b hb).elim (h b) fun hh => Nat.le_trans hn hh
theorem blk_round {G : Heap} {B : Nat} {a : SaA} {st : Sta} (h : Blks G B a st) {x0 : Sl} {rows : List (Tup ctR)} (hr : Row G 6 x0 (rowsOf ctR rows)) (hlow : ∀ b o, x0.p = some (b, o) → b < B) {i : Nat} (hi : i < rows.length) (hlen : x0.len = rows.length) (h60 : i < 60)
    {p1 p2 : Sl × Heap} (e1 : p1.1 = ⟨some (B, 0), 32, 32⟩) (e2 : p2.1 = ⟨some (B + 1, 0), 32, 32⟩) {r3 : (Ptr × Unit) × Heap} (e3 : r3.1.1 = some (a.c, 0)) :
    ∃ K a' st', law08_StateBlocks.s1 x0 p1 p2 r3 ((i : Int), ()) G = some (.inl (((i + 1 : Nat) : Int), ()), K) ∧ Blks K B a' st' ∧ Row K 6 x0 (rowsOf ctR rows) ∧ a'.c = a.c := by
  obtain ⟨b, o, r1, r2, ⟨o', r3'⟩, _⟩ := Row.rd (cts := ctR) (rows := rows) hr hi (by decide)
  have r1 : Sl.at 6 x0 (i : Int) = some (b, o) := r1
  obtain ⟨k, id, p, pl, to, n, hx⟩ : ∃ k id p pl to n : Int, rows[i] = (k, id, p, pl, to, n, ()) := ⟨_, _, _, _, _, _, rfl⟩
  rw [hx] at r2
  have hbB := hlow b o' r3'
  have hBl := get_lt h.b
  have hWl := get_lt h.w
  have hk1 := Keep.app (fun _ => False) G [.cells [.int .i64 k, .int .i64 id, .int .i64 p, .int .i64 pl, .int .i64 to, .int .i64 n] .exact]
  have hs1 := h.s.keep hk1 fun _ _ hf => hf
  obtain ⟨K, a', f1, f2⟩ := st_Apply hs1 (k, id, p, pl, to, n, ())
  have f3 := f2.pre hk1
  have hoff := f3.off h.off hWl
  have kK : ∀ {b : Nat} {y : Blk}, G[b]? = some y → b < B + 2 → K[b]? = some y := fun hb hlt => f3.k.get hb fun hf => by have := h.off _ hf; omega
  have kB := kK h.b (by omega)
  have kW := kK h.w (by omega)
  have kx : K[G.length]? = some (.cells [.int .i64 k, .int .i64 id, .int .i64 p, .int .i64 pl, .int .i64 to, .int .i64 n] .exact) := f2.k.get (by rw [tl_get0]; rfl) fun hf => by have := h.s.lt hf; omega
  have kr : Row K 6 x0 (rowsOf ctR rows) := hr.keep f3.k fun b o hp hf => by have := h.off _ hf; have := hlow b o hp; omega
  have hd1 : decide ((i : Int) < (x0.len : Int)) = true := decide_eq_true (by rw [hlen]; omega)
  have hd2 : decide ((i : Int) < 60) = true := decide_eq_true (by omega)
  unfold law08_StateBlocks.s1
  simp only [hd1, hd2, r1, cond_true, Option.bind_some, wrap_succ (show i < 9223372036854775807 by omega)]
  have r2' : rd G (.agg [.int .i64, .int .i64, .int .i64, .int .i64, .int .i64, .int .i64]) b o = (some (k, id, p, pl, to, n, ()) : Option (Int × Int × Int × Int × Int × Int × Unit)) := r2
  simp only [r2', e1, e2, e3, Option.bind_some, Option.map_some, cond_true, cond_false, List.append_assoc, List.cons_append, List.nil_append, List.length_append, List.length_cons, List.length_nil, Nat.zero_add, rd_t0, rd_t1, rdI_t0, rdI_t1, rdB_t0, rdB_t1, rdM_t0, rdM_t1, rd_c1, rdI_c1, rdB_c1, rdM_c1, rdI_c0, rdB_c0, rdM_c0, wr_t0, wr_t1, wr_c0, wr_c1, setL, List.set, List.getElem?_cons_zero, List.getElem?_cons_succ, un_i, un_b, un_m, un_s, Nat.le_refl, rd_iiib, rd_iiiiii, rd_ibm, rd_iii, rd_iib, rd_ii, rd_3312, rd_iiii, rd_si, rd_33121, rd_33121i, slRow_t0, slRow_t1, sl_c0, sl_c1]
  simp only [f1, Option.bind_some]
  have hbd := apply_bd st (k, id, p, pl, to, n, ())
  by_cases h0 : (st.doS (k, id, p, pl, to, n, ())).1 = 0
  · have hchk : chkR (k, id, p, pl, to, n, ()) = true := by
      unfold Sta.doS at h0
      by_cases hc : chkR (k, id, p, pl, to, n, ()) = true
      · exact hc
      · rw [if_neg hc] at h0; cases h0
    have hdo : st.doS (k, id, p, pl, to, n, ()) = st.applyS (k, id, p, pl, to, n, ()) := if_pos hchk
    have hg := chk_good hchk
    have q0 : rdI .i64 K G.length 0 = some k := rdI_of kx rfl
    have q3 : rdI .i64 K G.length 3 = some pl := rdI_of kx rfl
    have q5 : rdI .i64 K G.length 5 = some n := rdI_of kx rfl
    simp only [decide_eq_true h0, Bool.not_true, cond_false, q0, Option.bind_some]
    by_cases h8 : k = 8
    · have hpl := hg.k8 h8
      obtain ⟨m, rfl⟩ : ∃ m : Nat, pl = (m : Int) := ⟨pl.toNat, by have : 0 ≤ pl := hpl.1; omega⟩
      have hm : m < 32 := by have : (m : Int) ≤ 31 := hpl.2; omega
      have hat : Sl.at 1 ⟨some (B, 0), 32, 32⟩ (m : Int) = some (B, m) := by
        rw [at_of (by omega) (by omega), Int.toNat_natCast]; simp
      have hw : wr K B m [.bool true] = some (K.set B (.cells ((bdA st.bd).set m (.bool true)) .exact)) := wr1_of kB (by decide) (by rw [bdA_len]; omega)
      have hkS := Keep.set (F := fun b => b = B) K B (.cells ((bdA st.bd).set m (.bool true)) .exact) rfl
      have q0' : rdI .i64 (K.set B (.cells ((bdA st.bd).set m (.bool true)) .exact)) G.length 0 = some k := rdI_of (hkS.get kx (by omega)) rfl
      simp only [decide_eq_true h8, cond_true, q3, Option.bind_some, hat, hw, q0', decide_eq_false (show ¬ k = 9 by omega), cond_false]
      have hst := hbd.1 h8
      rw [← hdo] at hst
      rw [hst] at f3 hoff
      refine ⟨_, a', _, rfl, ⟨f3.s.keep hkS fun b hb e => by have := hoff b hb; omega, ?_, hkS.get kW (by omega), hoff⟩, kr.keep hkS fun b o hp e => by have := hlow b o hp; omega, f3.c⟩
      rw [set_get (get_lt kB), bdA_set h.s.w.bd hm]
    · simp only [decide_eq_false h8, cond_false, q0, Option.bind_some]
      by_cases h9 : k = 9
      · have hpl := hg.k9 h9
        obtain ⟨m, rfl⟩ : ∃ m : Nat, pl = (m : Int) := ⟨pl.toNat, by have : 0 ≤ pl := hpl.1; omega⟩
        have hm : m < 32 := by have : (m : Int) ≤ 31 := hpl.2; omega
        have hat : Sl.at 1 ⟨some (B + 1, 0), 32, 32⟩ (m : Int) = some (B + 1, m) := by
          rw [at_of (by omega) (by omega), Int.toNat_natCast]; simp
        have hrd : rdI .i64 K (B + 1) m = some ((afind st.wn (m : Int)).getD 0) := rdI_of kW (wnA_get st.wn hm)
        simp only [decide_eq_true h9, cond_true, q3, q5, Option.bind_some, hat, hrd]
        have hst := hbd.2.1 h9
        rw [← hdo] at hst
        rw [hst] at f3 hoff
        by_cases hlt : (afind st.wn (m : Int)).getD 0 < n
        · have hw : wr K (B + 1) m [.int .i64 n] = some (K.set (B + 1) (.cells ((wnA st.wn).set m (.int .i64 n)) .exact)) := wr1_of kW (by decide) (by rw [wnA_len]; omega)
          have hkS := Keep.set (F := fun b => b = B + 1) K (B + 1) (.cells ((wnA st.wn).set m (.int .i64 n)) .exact) rfl
          simp only [decide_eq_true hlt, cond_true, hat, hw, Option.bind_some]
          refine ⟨_, a', _, rfl, ⟨f3.s.keep hkS fun b hb e => by have := hoff b hb; omega, hkS.get kB (by omega), ?_, hoff⟩, kr.keep hkS fun b o hp e => by have := hlow b o hp; omega, f3.c⟩
          rw [set_get (get_lt kW), wnA_set h.s.w.wn hm, if_pos hlt]
        · simp only [decide_eq_false hlt, cond_false]
          refine ⟨K, a', _, rfl, ⟨f3.s, kB, ?_, hoff⟩, kr, f3.c⟩
          rw [kW, if_neg hlt, wnA_same h.s.w.wn]
      · simp only [decide_eq_false h9, cond_false]
        have hh := hbd.2.2 h8 h9
        rw [← hdo] at hh
        exact ⟨K, a', _, rfl, ⟨f3.s, by rw [hh.1]; exact kB, by rw [hh.2]; exact kW, hoff⟩, kr, f3.c⟩
  · simp only [decide_eq_false h0, Bool.not_false, cond_true]
    have hh : (st.doS (k, id, p, pl, to, n, ())).2.bd = st.bd ∧ (st.doS (k, id, p, pl, to, n, ())).2.wn = st.wn := by
      unfold Sta.doS at h0 ⊢
      by_cases hc : chkR (k, id, p, pl, to, n, ()) = true
      · rw [if_pos hc] at h0 ⊢
        refine hbd.2.2 (fun e => h0 ?_) (fun e => h0 ?_)
        · rw [hbd.1 e]
        · rw [hbd.2.1 e]
      · rw [if_neg hc]; exact ⟨rfl, rfl⟩
    exact ⟨K, a', _, rfl, ⟨f3.s, by rw [hh.1]; exact kB, by rw [hh.2]; exact kW, hoff⟩, kr, f3.c⟩
theorem blk_look {K : Heap} {B : Nat} {a : SaA} {st : Sta} (h : Blks K B a st) {p1 p2 : Sl × Heap} (e1 : p1.1 = ⟨some (B, 0), 32, 32⟩) (e2 : p2.1 = ⟨some (B + 1, 0), 32, 32⟩) {r3 : (Ptr × Unit) × Heap} (e3 : r3.1.1 = some (a.c, 0)) :
    loopW (law08_StateBlocks.s2 p1 p2 r3) (0, 0, ()) K = some (.inl ((st.bd.length : Int), ()), K) := by
  have hn := bdc_len 32 h.s.w.bd fun x hx => by have := h.s.w.bds x hx; omega
  refine loop_for' 32 (fun i => ((bdc st.bd i : Int), (i : Int), ())) (fun _ => K) rfl rfl (fun i hi => ?_) ?_
  · have hb : bdc st.bd i ≤ i := by
      clear hn hi
      induction i with
      | zero => exact Nat.le_refl _
      | succ i ih => rw [bdc]; split <;> omega
    have hat1 : Sl.at 1 ⟨some (B, 0), 32, 32⟩ (i : Int) = some (B, i) := by
      rw [at_of (by omega) (by omega), Int.toNat_natCast]; simp
    have hat2 : Sl.at 1 ⟨some (B + 1, 0), 32, 32⟩ (i : Int) = some (B + 1, i) := by
      rw [at_of (by omega) (by omega), Int.toNat_natCast]; simp
    have hr1 : rdB K B i = some (afind st.bd (i : Int)).isSome := rdB_of h.b (bdA_get st.bd hi)
    have hr2 : rdI .i64 K (B + 1) i = some ((afind st.wn (i : Int)).getD 0) := rdI_of h.w (wnA_get st.wn hi)
    unfold law08_StateBlocks.s2
    simp only [decide_eq_true (show (i : Int) < 32 by omega), cond_true, e1, e2, e3, hat1, hat2, hr1, hr2, Option.bind_some, st_bad h.s, st_worn h.s, beq_self_eq_true, Bool.not_true, cond_false, if_true, decide_true]
    rw [bdc, wrap_succ (by omega), wrap_succ (by omega)]
    cases (afind st.bd (i : Int)).isSome with
    | true => rfl
    | false => rfl
  · unfold law08_StateBlocks.s2
    simp only [decide_eq_false (show ¬ ((32 : Nat) : Int) < 32 by omega), cond_false, hn]
theorem StateBlocks_true (s : Sl) {H : Heap} (w : Came [.int .i64, .int .i64, .int .i64, .int .i64, .int .i64, .int .i64] [] s H) : ∃ H', law08_StateBlocks s H = some ((true, ()), H') := by
  obtain ⟨rows, hr, hlen, _, hlow⟩ := came_rows w
  have hr : Row H 6 s (rowsOf ctR rows) := hr
  unfold law08_StateBlocks
  generalize hH2 : H ++ [.cells (arrC 32 fun _ => [.bool false]) .exact] ++ [.cells (arrC 32 fun _ => [.int .i64 0]) .exact] = H2
  have m1 : mkS H 1 [.bool false] 32 32 = some (⟨some (H.length, 0), 32, 32⟩, H ++ [.cells (arrC 32 fun _ => [.bool false]) .exact]) := mkS_of (n := 32) (by decide) (by decide)
  have m2 : mkS (H ++ [.cells (arrC 32 fun _ => [.bool false]) .exact]) 8 [.int .i64 0] 32 32 = some (⟨some (H.length + 1, 0), 32, 32⟩, H2) := by
    have := mkS_of (H := H ++ [.cells (arrC 32 fun _ => [.bool false]) .exact]) (bytes := 8) (zero := [.int .i64 0]) (n := 32) (by decide) (by decide)
    rw [hH2] at this
    simpa using this
  obtain ⟨a, n1, n2, n3, n4⟩ := new_st H2
  have hl2 : H2.length = H.length + 2 := by rw [← hH2]; simp
  have b1 : H2[H.length]? = some (.cells (arrC 32 fun _ => [.bool false]) .exact) := by rw [← hH2, List.append_assoc, tl_get0]; rfl
  have b2 : H2[H.length + 1]? = some (.cells (arrC 32 fun _ => [.int .i64 0]) .exact) := by rw [← hH2, List.append_assoc, tl_get1]; rfl
  have k2 : Keep (fun _ => False) H H2 := by rw [← hH2]; exact (Keep.push _ _ _).trans (Keep.push _ _ _)
  have k3 := Keep.app (fun _ => False) H2 [.mp [] 0, .mp [] 0, .mp [] 0, .mp [] 0, .cells [.mp (some H2.length), .mp (some (H2.length + 1)), .mp (some (H2.length + 2)), .mp (some (H2.length + 3))] .exact]
  generalize H2 ++ [Blk.mp [] 0, .mp [] 0, .mp [] 0, .mp [] 0, .cells [.mp (some H2.length), .mp (some (H2.length + 1)), .mp (some (H2.length + 2)), .mp (some (H2.length + 3))] .exact] = H3 at n1 n3 k3
  have c1 := k3.get b1 fun hf => hf
  have c2 := k3.get b2 fun hf => hf
  have n1 : state_New H2 = some ((some (a.c, 0), ()), H3) := by rw [n1, n2]
  have hB : Blks H3 H.length a ⟨[], [], [], []⟩ := ⟨n3, c1, c2, fun b hb => by have := n4 b hb; omega⟩
  have hr3 : Row H3 6 s (rowsOf ctR rows) := hr.keep (k2.trans k3) fun _ _ _ hf => hf
  have hlow' : ∀ b o, s.p = some (b, o) → b < H.length := fun b o hp => hr.lt hp
  obtain ⟨x, K, g1, rfl, a', st', g2, g3⟩ := loop_rise (step := law08_StateBlocks.s1 s (⟨some (H.length, 0), 32, 32⟩, H ++ [.cells (arrC 32 fun _ => [.bool false]) .exact]) (⟨some (H.length + 1, 0), 32, 32⟩, H2) ((some (a.c, 0), ()), H3)) (min rows.length 60)
    (fun i y G => y = ((i : Int), ()) ∧ ∃ a' st', Blks G H.length a' st' ∧ Row G 6 s (rowsOf ctR rows) ∧ a'.c = a.c) (fun x G => x = () ∧ ∃ a' st', Blks G H.length a' st' ∧ a'.c = a.c)
    (fun i y G hi ⟨hy, a', st', hb, hrow, hcc⟩ => by
      subst hy
      obtain ⟨K, a'', st'', r1, r2, r3, r4⟩ := blk_round hb hrow hlow' (i := i) (by omega) hlen (by omega) (p1 := (⟨some (H.length, 0), 32, 32⟩, H ++ [.cells (arrC 32 fun _ => [.bool false]) .exact])) (p2 := (⟨some (H.length + 1, 0), 32, 32⟩, H2)) rfl rfl (r3 := ((some (a.c, 0), ()), H3)) (by rw [hcc])
      exact .inl ⟨_, K, r1, rfl, a'', st'', r2, r3, r4.trans hcc⟩)
    (fun y G ⟨hy, a', st', hb, hrow, hcc⟩ => by
      subst hy
      refine ⟨(), G, ?_, rfl, a', st', hb, hcc⟩
      unfold law08_StateBlocks.s1
      by_cases hl : rows.length ≤ 60
      · simp only [decide_eq_false (show ¬ ((min rows.length 60 : Nat) : Int) < (s.len : Int) by rw [hlen]; omega), cond_false]
      · simp only [decide_eq_true (show ((min rows.length 60 : Nat) : Int) < (s.len : Int) by rw [hlen]; omega), cond_true, decide_eq_false (show ¬ ((min rows.length 60 : Nat) : Int) < 60 by omega), cond_false])
    (y := (0, ())) (H := H3) ⟨rfl, a, _, hB, hr3, rfl⟩
  have hlook := blk_look g2 (p1 := (⟨some (H.length, 0), 32, 32⟩, H ++ [.cells (arrC 32 fun _ => [.bool false]) .exact])) (p2 := (⟨some (H.length + 1, 0), 32, 32⟩, H2)) rfl rfl (r3 := ((some (a.c, 0), ()), H3)) (by rw [g3])
  have hbads := st_bads g2.s
  rw [g3] at hbads
  refine ⟨K, (bind_to m1).trans ((bind_to m2).trans ((bind_to n1).trans ?_))⟩
  have d1 : H3[H.length]? = some (.cells (rep (Int.toNat 32) [.bool false]) .exact) := by rw [c1, rep_arr]; rfl
  have d2 : H3[H.length + 1]? = some (.cells (rep (Int.toNat 32) [.int .i64 0]) .exact) := by rw [c2, rep_arr]; rfl
  simp only [Option.bind_some, d1, d2, if_true]
  refine (bind_to g1).trans ((bind_to hlook).trans ?_)
  simp only [Sum.elim_inl, awake08, Option.bind_some, cond_true, hbads, decide_true]
end Ev
