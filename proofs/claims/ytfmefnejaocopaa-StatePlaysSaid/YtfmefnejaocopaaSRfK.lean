/- The plain state: copies, and all that a record does. -/
import Derived.Test.YtfmefnejaocopaaSRfJ
set_option linter.unusedSimpArgs false
set_option linter.unusedVariables false
namespace Ev
open Go (IntKind)

section
variable {H G K : Heap} {v v' w0 : RfV} {st st' : Sta} {x : RecT}
theorem DoM.set (m : DoM H v st x K) {B : Nat} (hB : H.length + 3 ≤ B) (z : Blk) : DoM H v st x (K.set B z) := by
  have kk : Keep (fun b => b = B) K (K.set B z) := Keep.set _ _ _ rfl
  exact ⟨m.s.keep kk fun b hb e => by have := m.o b hb; omega, ⟨by have := m.k.len; simp only [List.length_set]; omega, fun b hb _ => by rw [set_get' (by omega)]; exact m.k.same b hb fun hf => hf⟩,
    kk.get m.b0 (by omega), kk.get m.b1 (by omega), kk.get m.b2 (by omega), m.o⟩
theorem do_copy (m : DoM H v st x G) {to q : Int} (hto : x.2.2.2.2.1 = to) {s0 : Sta} (hs0 : s0 = ⟨ains st.sp to (q, false), st.lv, st.bd, st.wn⟩) (hw0 : RfAt G w0 s0) (hn0 : ∀ b, blkV w0 b → (blkV v b ∨ H.length + 3 ≤ b)) :
    WP (loopW (ref08_State_Do.s2 H (H ++ [.cells [.sl 3 v.1, .sl 3 v.2.1, .sl 1 v.2.2.1, .sl 2 v.2.2.2.1] .exact]) ((w0, ()), G)) (0, ()) (G ++ [.cells (vC w0) .exact]))
      fun r => ∃ w, DoM H v st x r.2 ∧ RfAt r.2 w ⟨ains st.sp to (q, false), insAll to st.lv (pgs st.lv x.2.1), st.bd, st.wn⟩ ∧ r.2[G.length]? = some (.cells (vC w) .exact) ∧ ∀ b, blkV w b → (blkV v b ∨ H.length + 3 ≤ b) ∧ b ≠ G.length := by
  have hH1 : (H ++ [Blk.cells [.sl 3 v.1, .sl 3 v.2.1, .sl 1 v.2.2.1, .sl 2 v.2.2.2.1] .exact]).length = H.length + 1 := by simp
  generalize H ++ [Blk.cells [.sl 3 v.1, .sl 3 v.2.1, .sl 1 v.2.2.1, .sl 2 v.2.2.2.1] .exact] = H1 at hH1
  have hBl : H.length + 3 ≤ G.length := by have := get_lt m.b2; omega
  have hmany := m.s.w.many
  refine wp_mono (wp_rise (step := ref08_State_Do.s2 H H1 ((w0, ()), G)) st.lv.length (fun i y K => y = ((i : Int), ()) ∧ ∃ w, DoM H v st x K ∧ RfAt K w ⟨ains st.sp to (q, false), insAll to st.lv (pgs (st.lv.take i) x.2.1), st.bd, st.wn⟩ ∧ K[G.length]? = some (.cells (vC w) .exact) ∧ ∀ b, blkV w b → (blkV v b ∨ H.length + 3 ≤ b) ∧ b ≠ G.length)
    (fun _ K => ∃ w, DoM H v st x K ∧ RfAt K w ⟨ains st.sp to (q, false), insAll to st.lv (pgs st.lv x.2.1), st.bd, st.wn⟩ ∧ K[G.length]? = some (.cells (vC w) .exact) ∧ ∀ b, blkV w b → (blkV v b ∨ H.length + 3 ≤ b) ∧ b ≠ G.length) ?_ ?_ ?_) (fun r hr => hr)
  · rintro i y K hi ⟨rfl, w, mK, hw, hB, hn⟩
    have hlm : (st.lv.map rlv).length = st.lv.length := List.length_map _
    have hx : (st.lv.map rlv)[i]'(by omega) = rlv st.lv[i] := List.getElem_map _
    obtain ⟨b0, o0, r1, r2, _⟩ := Row.rd (cts := ctL) (rows := st.lv.map rlv) mK.s.lv (i := i) (by omega) (by decide)
    rw [hx] at r2
    rw [pgs_take st.lv x.2.1 hi]
    generalize st.lv[i] = y at r2 ⊢
    have mK' := mK.keep (Keep.app (fun _ => False) K [.cells [.int .i64 (y.1 / 1024), .int .i64 (y.1 % 1024), .int .i64 y.2] .exact])
    have hw' := hw.keep (Keep.app (fun _ => False) K [.cells [.int .i64 (y.1 / 1024), .int .i64 (y.1 % 1024), .int .i64 y.2] .exact]) fun _ _ hf => hf
    have hB' : (K ++ [Blk.cells [.int .i64 (y.1 / 1024), .int .i64 (y.1 % 1024), .int .i64 y.2] .exact])[G.length]? = some (.cells (vC w) .exact) := by rw [List.getElem?_append_left (get_lt hB)]; exact hB
    have t0 : (K ++ [Blk.cells [.int .i64 (y.1 / 1024), .int .i64 (y.1 % 1024), .int .i64 y.2] .exact])[K.length]? = some (.cells [.int .i64 (y.1 / 1024), .int .i64 (y.1 % 1024), .int .i64 y.2] .exact) := by rw [tl_get0]; rfl
    have hwr := wrap_succ (show i < 9223372036854775807 by omega)
    unfold ref08_State_Do.s2
    refine wp_to mK.lv (wp_t (decide_eq_true (by rw [m.s.lvl]; exact Int.ofNat_lt.2 hi)) (wp_to mK.lv (wp_to r1 (wp_to r2 (wp_tmp (wp_to (rdI_of t0 rfl) ?_))))))
    rw [hH1]
    refine wp_to mK'.x1 (wp_if (p := y.1 / 1024 = x.2.1) rfl (fun e => ?_) (fun e => ?_))
    · have hrB : rd (K ++ [Blk.cells [.int .i64 (y.1 / 1024), .int .i64 (y.1 % 1024), .int .i64 y.2] .exact]) (.agg [.sl 3, .sl 3, .sl 1, .sl 2]) G.length 0 = (some w : Option RfV) := rd_agg_of hB' (by simp [vC]) rfl
      refine wp_to hrB (wp_to mK'.x4 (wp_to (rdI_of t0 rfl) (wp_to (rdI_of t0 rfl) ?_)))
      obtain ⟨w', K2, e1, e2⟩ := rf_with hw' (id := to) (p := y.1 % 1024) (pl := y.2) (by omega) (x := (q, false)) (by show afind (ains st.sp to (q, false)) to = _; rw [afind_ins m.s.w.sp, if_pos rfl])
      rw [hto]
      have hB2 := e2.k.get hB' fun hf => hf
      have hw2 : wr K2 G.length 0 [.sl 3 w'.1, .sl 3 w'.2.1, .sl 1 w'.2.2.1, .sl 2 w'.2.2.2.1] = some (K2.set G.length (.cells (vC w') .exact)) := by
        rw [wr_of hB2 (by decide) (by simp [vC])]; rfl
      have hn' : ∀ b, blkV w' b → (blkV v b ∨ H.length + 3 ≤ b) ∧ b ≠ G.length := fun b hb => (e2.n b hb).elim (hn b) fun hh => by
        have := get_lt hB'
        exact ⟨.inr (by omega), by omega⟩
      refine wp_to e1 (wp_to hw2 (wp_some ⟨?_, w', (mK'.keep e2.k).set hBl _, ?_, set_get (get_lt hB2), hn'⟩))
      · simp only [hwr]
      · rw [if_pos e, insAll_snoc]
        exact e2.s.keep (F := fun b => b = G.length) (Keep.set _ _ _ rfl) fun b hb => (hn' b hb).2
    · refine wp_some ⟨?_, w, mK', ?_, hB', hn⟩
      · simp only [hwr]
      · rw [if_neg e, List.append_nil]; exact hw'
  · rintro y K ⟨rfl, w, mK, hw, hB, hn⟩
    rw [List.take_length] at hw
    unfold ref08_State_Do.s2
    exact wp_to mK.lv (wp_f (decide_eq_false (by rw [m.s.lvl]; exact Int.lt_irrefl _)) (wp_some ⟨w, mK, hw, hB, hn⟩))
  · subst hs0
    have k0 := Keep.app (fun _ => False) G [.cells (vC w0) .exact]
    refine ⟨rfl, w0, m.keep k0, ?_, by rw [tl_get0]; rfl, fun b hb => ⟨hn0 b hb, ?_⟩⟩
    · exact hw0.keep k0 fun _ _ hf => hf
    · have := hw0.lt hb; omega
end
theorem ains_self {α : Type} {l : List (Int × α)} (h : Asc l) {k : Int} {v : α} (hv : afind l k = some v) : ains l k v = l :=
  asc_ext (h.ins _ _) h fun j => by
    rw [afind_ins h]
    split
    · rename_i e; rw [e, hv]
    · rfl
theorem worn_eq {l : List (Int × Int)} (h : Asc l) (k : Int) {n : Int} (hn : 0 ≤ n) {wn : List (Int × Int)} (h1 : (∀ x ∈ l, ¬ (x.1 = k ∧ n < x.2)) → wn = ains l k n) (h2 : (∃ x ∈ l, x.1 = k ∧ n < x.2) → wn = l) :
    wn = ains l k (if n > (afind l k).getD 0 then n else (afind l k).getD 0) := by
  cases hf : afind l k with
  | none =>
    rw [h1 fun x hx hh => by rw [show k = x.1 from hh.1.symm, h.find (v := x.2) hx] at hf; cases hf]
    show _ = ains l k (if n > 0 then n else 0)
    congr 1
    split <;> omega
  | some o =>
    show _ = ains l k (if n > o then n else o)
    by_cases e : n < o
    · rw [h2 ⟨_, afind_mem hf, rfl, e⟩, if_neg (by omega), ains_self h hf]
    · rw [h1 fun x hx hh => by
        rw [show k = x.1 from hh.1.symm, h.find (v := x.2) hx] at hf
        cases hf
        exact e hh.2]
      congr 1
      split <;> omega
section
variable {H G K : Heap} {v v' w0 : RfV} {st st' : Sta} {x : RecT}
/-- All that a record does. -/
theorem rf_Do (h : RfAt H v st) (g : x.1 ≠ 1 → GoodR x) (hn9 : x.1 = 9 → 0 ≤ x.2.2.2.2.2.1) : WP (ref08_State_Do v x H) (DoQ H v st x) := by
  have m := rf_begin h x
  have hH1 : (H ++ [Blk.cells [.sl 3 v.1, .sl 3 v.2.1, .sl 1 v.2.2.1, .sl 2 v.2.2.2.1] .exact]).length = H.length + 1 := by simp
  unfold ref08_State_Do
  simp only [List.append_assoc, List.cons_append, List.nil_append, List.length_append, List.length_cons, List.length_nil, Nat.zero_add]
  generalize H ++ [Blk.cells [.sl 3 v.1, .sl 3 v.2.1, .sl 1 v.2.2.1, .sl 2 v.2.2.2.1] .exact, .cells [.int .i64 x.1, .int .i64 x.2.1, .int .i64 x.2.2.1, .int .i64 x.2.2.2.1, .int .i64 x.2.2.2.2.1, .int .i64 x.2.2.2.2.2.1] .exact, .cells [.sl 3 Sl.nil, .sl 3 Sl.nil, .sl 1 Sl.nil, .sl 2 Sl.nil] .exact] = G0 at m ⊢
  obtain ⟨i0, f1, f2, f3⟩ := rf_find m.s x.2.1
  have m1 := m.keep (Keep.app (fun _ => False) G0 [.cells (vC v) .exact])
  obtain ⟨G1, g1, gk⟩ := rf_get m1.s x.2.1 x.2.2.1
  have m2 := m1.keep gk
  refine wp_to m.rv (wp_to m.x1 (wp_to f1 (wp_to m1.rv (wp_to m1.x1 (wp_to m1.x2 (wp_to g1 (wp_to m2.x0 ?_)))))))
  clear m m1 f1 g1 gk
  refine wp_if (p := x.1 = 3) rfl (fun k3 => ?_) (fun k3 => ?_)
  · have hap : st.applyS x = st.moveS x.2.2.2.1 x.2.2.2.2.1 := by unfold Sta.applyS; rw [if_neg (by omega), if_pos k3]
    unfold Sta.moveS at hap
    have q1 := rf_refs m2.s x.2.2.2.1
    have m3 := m2.keep (Keep.app (fun _ => False) G1 [.cells (vC v) .exact])
    refine wp_to m2.rv (wp_to m2.x3 (wp_to q1 (wp_if (p := cnt st.lv x.2.2.2.1 = 0) (decide_eq_decide.2 Int.natCast_eq_zero) (fun e => ?_) (fun e => ?_))))
    · rw [if_pos e] at hap
      exact m3.err hap
    · rw [if_neg e] at hap
      have q2 := rf_refs m3.s x.2.2.2.2.1
      have m4 := m3.keep (Keep.app (fun _ => False) _ [.cells (vC v) .exact])
      refine wp_to m3.rv (wp_to m3.x4 (wp_to q2 (wp_if (p := 0 < cnt st.lv x.2.2.2.2.1) (decide_eq_decide.2 Int.natCast_pos) (fun e => ?_) (fun e => ?_))))
      · rw [if_pos e] at hap
        exact m4.err hap
      · rw [if_neg e] at hap
        refine wp_seq _ (do_move m4) ?_
        generalize G1 ++ [Blk.cells (vC v) .exact] ++ [.cells (vC v) .exact] = G4 at m4 ⊢
        rintro ⟨⟨s, ⟨⟩⟩, G5⟩ ⟨s', hs, hE, hn⟩
        cases hs
        have h2 := get_lt m4.b2
        have hE : Em (G4 ++ [.cells [] .exact]) ⟨some (G4.length, 0), 0, 0⟩ 3 G5 s (rowsOf ctL ((mv x.2.2.2.1 x.2.2.2.2.1 st.lv).map rlv)) := hE
        have hoff : ∀ b o, (⟨some (G4.length, 0), 0, 0⟩ : Sl).p = some (b, o) → b = G4.length := fun b o hh => by cases hh; rfl
        have m5 := m4.keep (Keep.app (fun _ => False) G4 [.cells [] .exact])
        have s5 : RfAt G5 v st := m5.s.keep hE.k fun b hb ⟨o, ho⟩ => by have := hoff b o ho; have := m4.o b hb; omega
        have c0 : G5[H.length]? = some (.cells (vC v) .exact) := hE.get m5.b0 fun o ho => by have := hoff _ o ho; omega
        have c2 : G5[H.length + 2]? = some (.cells nilV .exact) := hE.get m5.b2 fun o ho => by have := hoff _ o ho; omega
        have hk5 : Keep (fun _ => False) H G5 := ⟨by have := m5.k.len; have := hE.k.len; omega, fun b hb _ => by
          rw [hE.k.same b (by have := m5.k.len; omega) fun ⟨o, ho⟩ => by have := hoff _ o ho; omega]
          exact m5.k.same b hb fun hf => hf⟩
        have hw : wr G5 H.length 1 [.sl 3 s] = some (G5.set H.length (.cells (vC (v.1, s, v.2.2.1, v.2.2.2.1, ())) .exact)) := by rw [wr1_of c0 (by decide) (by simp [vC])]; rfl
        have hrd : rd (G5.set H.length (.cells (vC (v.1, s, v.2.2.1, v.2.2.2.1, ())) .exact)) (.agg [.sl 3, .sl 3, .sl 1, .sl 2]) H.length 0 = (some (v.1, s, v.2.2.1, v.2.2.2.1, ()) : Option RfV) := rd_agg_of (set_get (get_lt c0)) (by simp [vC]) rfl
        have hso : ∀ b o, s.p = some (b, o) → G4.length ≤ b := fun b o hp => by
          rcases hE.o _ hp with hh | ⟨o', hh⟩
          · simp only [List.length_append] at hh; omega
          · have := hoff _ _ hh; simp only at this; omega
        have kf : Keep (fun b => b = H.length) G5 (G5.set H.length (.cells (vC (v.1, s, v.2.2.1, v.2.2.2.1, ())) .exact)) := Keep.set _ _ _ rfl
        have s6 := s5.keep kf fun b hb e => by have := m4.o b hb; omega
        refine wp_to hw (wp_to hrd (ret_state (v' := (v.1, s, v.2.2.1, v.2.2.2.1, ())) (st' := ⟨st.sp, mv x.2.2.2.1 x.2.2.2.2.1 st.lv, st.bd, st.wn⟩) (H := H) (v0 := v) (B := H.length + 2) ?_ ?_ (by omega) (kf.get c2 (by omega)) rfl (fun b hb => ?_) fun G' hr => ?_))
        · exact ⟨s5.w.moved _ _, s6.sp, (Row.grown hE.g).keep kf fun b o hp e => by have := hso b o hp; omega, s6.bd, s6.wn, s6.spl, by rw [hn, mv_len], s6.bdl, s6.wnl⟩
        · exact ⟨by have := hk5.len; simp only [List.length_set]; omega, fun b hb _ => by rw [set_get' (by omega)]; exact hk5.same b hb fun hf => hf⟩
        · rcases hb with hb | ⟨o, ho⟩ | hb | hb
          · have hb' : blkV v b := .inl hb
            have := m4.o b hb'; exact ⟨.inl hb', by omega⟩
          · have := hso b o ho
            exact ⟨.inr (by omega), by omega⟩
          · have hb' : blkV v b := .inr (.inr (.inl hb))
            have := m4.o b hb'; exact ⟨.inl hb', by omega⟩
          · have hb' : blkV v b := .inr (.inr (.inr hb))
            have := m4.o b hb'; exact ⟨.inl hb', by omega⟩
        · unfold DoQ
          rw [hap]
          exact ⟨rfl, hr⟩
  refine wp_if (p := x.1 = 4) rfl (fun k4 => ?_) (fun k4 => ?_)
  · have hap : st.applyS x = st.openS x.2.1 x.2.2.2.2.2.1 [] := by unfold Sta.applyS; rw [if_pos k4]
    unfold Sta.openS at hap
    cases hf : afind st.sp x.2.1 with
    | some y =>
      obtain ⟨j, rfl, _⟩ := f3 y hf
      rw [hf, if_pos (show (some y).isSome = true from rfl)] at hap
      exact wp_t (decide_eq_true (Int.natCast_nonneg _)) (m2.err hap)
    | none =>
      rw [f2 hf]
      rw [hf, if_neg (by decide)] at hap
      refine wp_f rfl (wp_to m2.rv (wp_to m2.x1 (wp_to m2.x5 ?_)))
      exact wp_seq _ (rf_made m2.s false ((g (by omega)).k4 k4).1 ((g (by omega)).k4 k4).2) fun r hr => m2.ret hr hap
  refine wp_if (p := x.1 = 8) rfl (fun k8 => ?_) (fun k8 => ?_)
  · have hap : st.applyS x = (0, ⟨st.sp, st.lv, ains st.bd x.2.2.2.1 (), st.wn⟩) := by unfold Sta.applyS; rw [if_neg k4, if_neg k3, if_pos k8]
    refine wp_to m2.rv (wp_to m2.x3 (wp_seq _ (rf_bad m2.s ((g (by omega)).k8 k8)) fun r hr => m2.ret hr hap))
  refine wp_if (p := x.1 = 9) rfl (fun k9 => ?_) (fun k9 => ?_)
  · refine wp_to m2.rv (wp_to m2.x3 (wp_to m2.x5 (wp_seq _ (rf_worn m2.s ((g (by omega)).k9 k9)) fun r ⟨wn, h1, h2, hr⟩ => m2.ret hr ?_)))
    unfold Sta.applyS
    rw [if_neg k4, if_neg k3, if_neg k8, if_pos k9, worn_eq h.w.wn _ (hn9 k9) h1 h2]
  have hap0 := show st.applyS x = _ by unfold Sta.applyS; rw [if_neg k4, if_neg k3, if_neg k8, if_neg k9]
  cases hf : afind st.sp x.2.1 with
  | none =>
    rw [hf] at hap0
    rw [f2 hf]
    exact wp_t rfl (m2.err hap0)
  | some y =>
    obtain ⟨j, rfl, hj, hje⟩ := f3 y hf
    rw [hf] at hap0
    simp only at hap0
    have hlm : (st.sp.map rsp).length = st.sp.length := List.length_map _
    have hx : (st.sp.map rsp)[j]'(by omega) = rsp st.sp[j] := List.getElem_map _
    obtain ⟨b0, o0, r1, r2, _⟩ := Row.rd (cts := ctP) (rows := st.sp.map rsp) m2.s.sp (i := j) (by omega) (by decide)
    rw [hx, hje] at r2
    have hid := h.w.ids _ (afind_mem hf)
    have r2 : rd G1 (.agg [.int .i64, .int .i64, .bool]) b0 o0 = (some (x.2.1, y.1, y.2, ()) : Option (Int × Int × Bool × Unit)) := r2
    refine wp_f (decide_eq_false (Int.not_lt.2 (Int.natCast_nonneg _))) (wp_to m2.sp (wp_to r1 (wp_to r2 (wp_tmpB ?_))))
    have m3 := m2.keep (Keep.app (fun _ => False) G1 [.cells [.int .i64 x.2.1, .int .i64 y.1, .bool y.2] .exact])
    have t0 : (G1 ++ [Blk.cells [.int .i64 x.2.1, .int .i64 y.1, .bool y.2] .exact])[G1.length]? = some (.cells [.int .i64 x.2.1, .int .i64 y.1, .bool y.2] .exact) := by rw [tl_get0]; rfl
    refine wp_to m3.x0 (wp_if (p := x.1 = 1) rfl (fun k1 => ?_) (fun k1 => ?_))
    · rw [if_pos k1] at hap0
      refine wp_to m3.x2 (wp_if (p := x.2.2.1 < 0) rfl (fun e => ?_) (fun e => ?_))
      · rw [if_pos e] at hap0
        exact m3.err hap0
      · rw [if_neg e] at hap0
        refine wp_to m3.x2 (wp_to (rdI_of t0 rfl) (wp_if (p := y.1 ≤ x.2.2.1) rfl (fun e2 => ?_) (fun e2 => ?_)))
        · rw [if_pos e2] at hap0
          exact m3.err hap0
        · rw [if_neg e2] at hap0
          obtain ⟨w', K, u1, u2⟩ := rf_with m3.s (id := x.2.1) (p := x.2.2.1) (pl := x.2.2.2.1) (by have := hid.2.2; simp only at this; omega) hf
          exact wp_to m3.rv (wp_to m3.x1 (wp_to m3.x2 (wp_to m3.x3 (wp_to u1 (m3.ret u2 hap0)))))
    · rw [if_neg k1] at hap0
      refine wp_if (p := x.1 = 2) rfl (fun k2 => ?_) (fun k2 => ?_)
      · rw [if_pos k2] at hap0
        refine wp_c (fun e => ?_) (fun e => ?_)
        · have e : ¬ (afind (pgs st.lv x.2.1) x.2.2.1).isSome = true := by simpa using e
          rw [if_neg e] at hap0
          exact m3.err hap0
        · have e : (afind (pgs st.lv x.2.1) x.2.2.1).isSome = true := by simpa using e
          rw [if_pos e] at hap0
          have hp : 0 ≤ x.2.2.1 ∧ x.2.2.1 < 1024 := by
            rw [pgs_find h.w.lv] at e
            by_cases hp : 0 ≤ x.2.2.1 ∧ x.2.2.1 < 1024
            · exact hp
            · rw [if_neg hp] at e; cases e
          exact wp_to m3.rv (wp_to m3.x1 (wp_to m3.x2 (wp_seq _ (rf_trim m3.s x.2.1 hp) fun r hr => m3.ret hr hap0)))
      · rw [if_neg k2] at hap0
        refine wp_if (p := x.1 = 5) rfl (fun k5 => ?_) (fun k5 => ?_)
        · rw [if_pos k5] at hap0
          exact wp_to m3.rv (wp_to m3.x1 (wp_seq _ (rf_dropped m3.s x.2.1) fun r hr => m3.ret hr hap0))
        · rw [if_neg k5] at hap0
          refine wp_if (p := x.1 = 6) rfl (fun k6 => ?_) (fun k6 => ?_)
          · rw [if_pos k6] at hap0
            unfold Sta.openS at hap0
            obtain ⟨i1, q1, q2, q3⟩ := rf_find m3.s x.2.2.2.2.1
            have m4 := m3.keep (Keep.app (fun _ => False) _ [.cells (vC v) .exact])
            refine wp_to m3.rv (wp_to m3.x4 (wp_to q1 ?_))
            cases hf2 : afind st.sp x.2.2.2.2.1 with
            | some z =>
              obtain ⟨j2, rfl, _⟩ := q3 z hf2
              rw [hf2, if_pos (show (some z).isSome = true from rfl)] at hap0
              exact wp_t (decide_eq_true (Int.natCast_nonneg _)) (m4.err hap0)
            | none =>
              rw [q2 hf2]
              rw [hf2, if_neg (by decide)] at hap0
              have t1 : (G1 ++ [Blk.cells [.int .i64 x.2.1, .int .i64 y.1, .bool y.2] .exact] ++ [.cells (vC v) .exact])[G1.length]? = some (.cells [.int .i64 x.2.1, .int .i64 y.1, .bool y.2] .exact) := by rw [List.getElem?_append_left (get_lt t0)]; exact t0
              refine wp_f rfl (wp_to m4.rv (wp_to m4.x4 (wp_to (rdI_of t1 rfl) (wp_seq _ (rf_made m4.s false ((g (by omega)).k6 k6) hid.2.2) ?_))))
              rintro ⟨⟨w0, ⟨⟩⟩, G5⟩ hr
              have hr : RRes _ v G5 w0 ⟨ains st.sp x.2.2.2.2.1 (y.1, false), st.lv, st.bd, st.wn⟩ := hr
              have m5 := m4.keep hr.k
              have hw : wr (G5 ++ [Blk.cells [.sl 3 Sl.nil, .sl 3 Sl.nil, .sl 1 Sl.nil, .sl 2 Sl.nil] .exact]) G5.length 0 [.sl 3 w0.1, .sl 3 w0.2.1, .sl 1 w0.2.2.1, .sl 2 w0.2.2.2.1] = some (G5 ++ [.cells (vC w0) .exact]) := by
                rw [wr_t0, wr_c0 _ _ _ _ (by simp)]; rfl
              refine wp_to hw (wp_seq _ (do_copy m5 rfl rfl hr.s fun b hb => (hr.n b hb).imp_right fun hh => ?_) ?_)
              · have := get_lt m4.b2; omega
              rintro ⟨⟨⟩, G6⟩ ⟨w, m6, hw6, hB6, hn6⟩
              have hrd : rd G6 (.agg [.sl 3, .sl 3, .sl 1, .sl 2]) G5.length 0 = (some w : Option RfV) := rd_agg_of hB6 (by simp [vC]) rfl
              refine wp_to hrd (ret_state (v0 := v) (H := H) (B := H.length + 2) hw6 m6.k (by omega) m6.b2 rfl (fun b hb => ?_) fun G' hr' => ?_)
              · rcases (hn6 b hb).1 with hh | hh
                · have := m6.o b hh; exact ⟨.inl hh, by omega⟩
                · exact ⟨.inr (by omega), by omega⟩
              · unfold DoQ
                rw [hap0]
                exact ⟨rfl, hr'⟩
          · rw [if_neg k6] at hap0
            exact wp_to m3.rv (wp_to (rdI_of t0 rfl) (wp_to (rdI_of t0 rfl) (wp_seq _ (rf_made m3.s true ⟨hid.1, hid.2.1⟩ hid.2.2) fun r hr => m3.ret hr hap0)))
end
end Ev
