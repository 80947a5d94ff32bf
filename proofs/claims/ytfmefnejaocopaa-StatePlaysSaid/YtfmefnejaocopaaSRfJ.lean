/- The plain state: what a record does. -/
import Derived.Test.YtfmefnejaocopaaSRfI
set_option linter.unusedSimpArgs false
set_option linter.unusedVariables false
namespace Ev
open Go (IntKind)

def nilV : List C := [.sl 3 Sl.nil, .sl 3 Sl.nil, .sl 1 Sl.nil, .sl 2 Sl.nil]
structure DoM (H : Heap) (v : RfV) (st : Sta) (x : RecT) (G : Heap) : Prop where
  s : RfAt G v st
  k : Keep (fun _ => False) H G
  b0 : G[H.length]? = some (.cells (vC v) .exact)
  b1 : G[H.length + 1]? = some (recB x)
  b2 : G[H.length + 2]? = some (.cells nilV .exact)
  o : ∀ b, blkV v b → b < H.length
def DoQ (H : Heap) (v : RfV) (st : Sta) (x : RecT) (r : (RfV × Int × Unit) × Heap) : Prop := r.1.2.1 = (st.applyS x).1 ∧ RRes H v r.2 r.1.1 (st.applyS x).2
section
variable {H G : Heap} {v v' : RfV} {st st' : Sta} {x : RecT}
theorem DoM.keep (m : DoM H v st x G) {G' : Heap} (k : Keep (fun _ => False) G G') : DoM H v st x G' :=
  ⟨m.s.keep k fun _ _ hf => hf, m.k.trans k, k.get m.b0 fun hf => hf, k.get m.b1 fun hf => hf, k.get m.b2 fun hf => hf, m.o⟩
theorem DoM.rv (m : DoM H v st x G) : rd G (.agg [.sl 3, .sl 3, .sl 1, .sl 2]) H.length 0 = (some v : Option RfV) := rd_agg_of m.b0 (by simp [vC]) rfl
theorem DoM.x0 (m : DoM H v st x G) : rdI .i64 G (H.length + 1) 0 = some x.1 := rdI_of m.b1 rfl
theorem DoM.x1 (m : DoM H v st x G) : rdI .i64 G (H.length + 1) 1 = some x.2.1 := rdI_of m.b1 rfl
theorem DoM.x2 (m : DoM H v st x G) : rdI .i64 G (H.length + 1) 2 = some x.2.2.1 := rdI_of m.b1 rfl
theorem DoM.x3 (m : DoM H v st x G) : rdI .i64 G (H.length + 1) 3 = some x.2.2.2.1 := rdI_of m.b1 rfl
theorem DoM.x4 (m : DoM H v st x G) : rdI .i64 G (H.length + 1) 4 = some x.2.2.2.2.1 := rdI_of m.b1 rfl
theorem DoM.x5 (m : DoM H v st x G) : rdI .i64 G (H.length + 1) 5 = some x.2.2.2.2.2.1 := rdI_of m.b1 rfl
theorem DoM.sp (m : DoM H v st x G) : rdSl 3 G H.length 0 = some v.1 := rdSl_of m.b0 rfl
theorem DoM.lv (m : DoM H v st x G) : rdSl 3 G H.length 1 = some v.2.1 := rdSl_of m.b0 rfl
theorem RRes.refl (h : RfAt H v st) : RRes H v H v st := ⟨h, Keep.refl _ _, fun b hb => .inl hb⟩
/-- A state is told, with an error's number. -/
theorem ret_state {v0 : RfV} {B : Nat} (hs : RfAt G v' st') (hk : Keep (fun _ => False) H G) (hB : H.length ≤ B) {cs : List C} (hb : G[B]? = some (.cells cs .exact)) (hl : cs.length = 4) (hn : ∀ b, blkV v' b → (blkV v0 b ∨ H.length ≤ b) ∧ b ≠ B) {e : Int}
    {Q : (RfV × Int × Unit) × Heap → Prop} (hQ : ∀ G', RRes H v0 G' v' st' → Q ((v', e, ()), G')) :
    WP ((wr G B 0 [.sl 3 v'.1, .sl 3 v'.2.1, .sl 1 v'.2.2.1, .sl 2 v'.2.2.2.1]).bind fun (H57 : Heap) => Option.bind (α := RfV) (rd H57 (.agg [.sl 3, .sl 3, .sl 1, .sl 2]) B 0) fun v58 => some ((v58, e, ()), H57)) Q := by
  have hwr : wr G B 0 [.sl 3 v'.1, .sl 3 v'.2.1, .sl 1 v'.2.2.1, .sl 2 v'.2.2.2.1] = some (G.set B (.cells (vC v') .exact)) := by
    rw [wr_of hb (by decide) (by rw [hl]; exact Nat.le_refl 4)]
    obtain ⟨c0, c1, c2, c3, rfl⟩ : ∃ c0 c1 c2 c3, cs = [c0, c1, c2, c3] := by
      match cs, hl with
      | [c0, c1, c2, c3], _ => exact ⟨c0, c1, c2, c3, rfl⟩
    rfl
  have hrd : rd (G.set B (.cells (vC v') .exact)) (.agg [.sl 3, .sl 3, .sl 1, .sl 2]) B 0 = (some v' : Option RfV) := rd_agg_of (set_get (get_lt hb)) (by simp [vC]) rfl
  have kk : Keep (fun b => b = B) G (G.set B (.cells (vC v') .exact)) := Keep.set _ _ _ rfl
  refine wp_to hwr (wp_to hrd (wp_some (hQ _ ⟨hs.keep kk fun b hbb e => (hn b hbb).2 e, ⟨by have := hk.len; simp only [List.length_set]; omega, fun b hbb _ => ?_⟩, fun b hbb => (hn b hbb).1⟩)))
  rw [set_get' (by omega)]
  exact hk.same b hbb fun hf => hf
theorem DoM.ret (m : DoM H v st x G) {G' : Heap} (r : RRes G v G' v' st') {e : Int} (hx : st.applyS x = (e, st')) :
    WP ((wr G' (H.length + 2) 0 [.sl 3 v'.1, .sl 3 v'.2.1, .sl 1 v'.2.2.1, .sl 2 v'.2.2.2.1]).bind fun (H57 : Heap) => Option.bind (α := RfV) (rd H57 (.agg [.sl 3, .sl 3, .sl 1, .sl 2]) (H.length + 2) 0) fun v58 => some ((v58, e, ()), H57)) (DoQ H v st x) := by
  refine ret_state r.s (m.k.trans r.k) (by omega) (r.k.get m.b2 fun hf => hf) rfl (v0 := v) (fun b hb => ?_) fun G' hr => ?_
  · rcases r.n b hb with hh | hh
    · exact ⟨.inl hh, by have := m.o b hh; omega⟩
    · have := get_lt m.b2
      have := m.k.len
      exact ⟨.inr (by omega), by omega⟩
  · unfold DoQ
    rw [hx]
    exact ⟨rfl, hr⟩
theorem DoM.err (m : DoM H v st x G) {e : Int} (hx : st.applyS x = (e, st)) :
    WP (Option.bind (α := RfV) (rd G (.agg [.sl 3, .sl 3, .sl 1, .sl 2]) H.length 0) fun v15 => (wr G (H.length + 2) 0 [.sl 3 v15.1, .sl 3 v15.2.1, .sl 1 v15.2.2.1, .sl 2 v15.2.2.2.1]).bind fun (H57 : Heap) => Option.bind (α := RfV) (rd H57 (.agg [.sl 3, .sl 3, .sl 1, .sl 2]) (H.length + 2) 0) fun v58 => some ((v58, e, ()), H57)) (DoQ H v st x) :=
  wp_to m.rv (m.ret (RRes.refl m.s) hx)
theorem rf_begin (h : RfAt H v st) (x : RecT) : DoM H v st x (H ++ [.cells [.sl 3 v.1, .sl 3 v.2.1, .sl 1 v.2.2.1, .sl 2 v.2.2.2.1] .exact, .cells [.int .i64 x.1, .int .i64 x.2.1, .int .i64 x.2.2.1, .int .i64 x.2.2.2.1, .int .i64 x.2.2.2.2.1, .int .i64 x.2.2.2.2.2.1] .exact, .cells [.sl 3 Sl.nil, .sl 3 Sl.nil, .sl 1 Sl.nil, .sl 2 Sl.nil] .exact]) :=
  ⟨h.keep (Keep.app (fun _ => False) H _) fun _ _ hf => hf, Keep.app _ _ _, by rw [tl_get0]; rfl, by rw [tl_get1]; rfl, by rw [tl_get1]; rfl, fun b hb => h.lt hb⟩
theorem wp_tmp {β : Type} {a b c : Int} {K : Heap → Option β} {Q : β → Prop} (k : WP (K (G ++ [.cells [.int .i64 a, .int .i64 b, .int .i64 c] .exact])) Q) :
    WP ((wr (G ++ [.cells [.int .i64 0, .int .i64 0, .int .i64 0] .exact]) G.length 0 [.int .i64 a, .int .i64 b, .int .i64 c]).bind K) Q :=
  wp_to (by rw [wr_t0, wr_c0 _ _ _ _ (by simp)]; rfl) k
theorem wp_tmpB {β : Type} {a b : Int} {c : Bool} {K : Heap → Option β} {Q : β → Prop} (k : WP (K (G ++ [.cells [.int .i64 a, .int .i64 b, .bool c] .exact])) Q) :
    WP ((wr (G ++ [.cells [.int .i64 0, .int .i64 0, .bool false] .exact]) G.length 0 [.int .i64 a, .int .i64 b, .bool c]).bind K) Q :=
  wp_to (by rw [wr_t0, wr_c0 _ _ _ _ (by simp)]; rfl) k
theorem mv_snoc (f t : Int) (l : List (Int × Int)) (y : Int × Int) : mv f t (l ++ [y]) = mv f t l ++ [if y.2 = f then (y.1, t) else y] := by unfold mv; rw [List.map_append]; rfl
theorem mv_len (f t : Int) (l : List (Int × Int)) : (mv f t l).length = l.length := List.length_map _
theorem SaW.moved (w : SaW st) (f t : Int) : SaW ⟨st.sp, mv f t st.lv, st.bd, st.wn⟩ :=
  ⟨w.sp, mv_asc w.lv, w.bd, w.wn, fun y hy => by
    obtain ⟨z, hz, rfl⟩ := List.mem_map.1 hy
    have : (if z.2 = f then (z.1, t) else z).1 = z.1 := by split <;> rfl
    rw [this]; exact w.own z hz, w.ids, w.bds, w.wns⟩
/-- Leaves that are moved. -/
theorem do_move (m : DoM H v st x G) : WP (loopW (ref08_State_Do.s1 H (H ++ [.cells [.sl 3 v.1, .sl 3 v.2.1, .sl 1 v.2.2.1, .sl 2 v.2.2.2.1] .exact])) (⟨some (G.length, 0), 0, 0⟩, 0, ()) (G ++ [.cells [] .exact]))
    fun r => ∃ s, r.1 = (s, ()) ∧ Em (G ++ [.cells [] .exact]) ⟨some (G.length, 0), 0, 0⟩ 3 r.2 s (rowsOf ctL ((mv x.2.2.2.1 x.2.2.2.2.1 st.lv).map rlv)) ∧ s.len = st.lv.length := by
  have hH1 : (H ++ [Blk.cells [.sl 3 v.1, .sl 3 v.2.1, .sl 1 v.2.2.1, .sl 2 v.2.2.2.1] .exact]).length = H.length + 1 := by simp
  generalize H ++ [Blk.cells [.sl 3 v.1, .sl 3 v.2.1, .sl 1 v.2.2.1, .sl 2 v.2.2.2.1] .exact] = H1 at hH1
  have m0 := m.keep (Keep.app (fun _ => False) G [.cells [] .exact])
  have hmany := m.s.w.many
  have hoff : ∀ b o, (⟨some (G.length, 0), 0, 0⟩ : Sl).p = some (b, o) → b = G.length := fun b o hh => by cases hh; rfl
  have hst : ∀ {G' : Heap} {s : Sl} {cs : List C}, Em (G ++ [.cells [] .exact]) ⟨some (G.length, 0), 0, 0⟩ 3 G' s cs → RfAt G' v st ∧ G'[H.length]? = some (.cells (vC v) .exact) ∧ G'[H.length + 1]? = some (recB x) := fun hE => by
    have h1 := get_lt m.b0
    have h2 := get_lt m.b1
    refine ⟨m0.s.keep hE.k fun b hb ⟨o, ho⟩ => ?_, hE.get m0.b0 fun o ho => ?_, hE.get m0.b1 fun o ho => ?_⟩
    · have := hoff b o ho; have := m.o b hb; omega
    · have := hoff _ o ho; omega
    · have := hoff _ o ho; omega
  have h0 : Em (G ++ [.cells [] .exact]) ⟨some (G.length, 0), 0, 0⟩ 3 (G ++ [.cells [] .exact]) ⟨some (G.length, 0), 0, 0⟩ [] := Em.start ⟨rfl, rfl, fun hh => (by cases hh), fun a ha => by cases ha; exact ⟨rfl, .inr (by rw [tl_get0]; rfl)⟩⟩
  refine wp_mono (wp_rise st.lv.length (fun i y G' => ∃ s, y = (s, (i : Int), ()) ∧ Em (G ++ [.cells [] .exact]) ⟨some (G.length, 0), 0, 0⟩ 3 G' s (rowsOf ctL ((mv x.2.2.2.1 x.2.2.2.2.1 (st.lv.take i)).map rlv)) ∧ s.len = i)
    (fun y G' => ∃ s, y = (s, ()) ∧ Em (G ++ [.cells [] .exact]) ⟨some (G.length, 0), 0, 0⟩ 3 G' s (rowsOf ctL ((mv x.2.2.2.1 x.2.2.2.2.1 st.lv).map rlv)) ∧ s.len = st.lv.length) ?_ ?_ ?_) (fun r hr => hr)
  · rintro i y K hi ⟨s, rfl, hE, hn⟩
    obtain ⟨hK, hb0, hb1⟩ := hst hE
    have hlm : (st.lv.map rlv).length = st.lv.length := List.length_map _
    have hx : (st.lv.map rlv)[i]'(by omega) = rlv st.lv[i] := List.getElem_map _
    have hv : rdSl 3 K H.length 1 = some v.2.1 := rdSl_of hb0 rfl
    obtain ⟨b0, o0, r1, r2, _⟩ := Row.rd (cts := ctL) (rows := st.lv.map rlv) hK.lv (i := i) (by omega) (by decide)
    rw [hx] at r2
    rw [take_snoc hi, mv_snoc]
    generalize st.lv[i] = y at r2 ⊢
    have hb1' : (K ++ [Blk.cells [.int .i64 (y.1 / 1024), .int .i64 (y.1 % 1024), .int .i64 y.2] .exact])[H.length + 1]? = some (recB x) := by rw [List.getElem?_append_left (get_lt hb1)]; exact hb1
    have t0 : (K ++ [Blk.cells [.int .i64 (y.1 / 1024), .int .i64 (y.1 % 1024), .int .i64 y.2] .exact])[K.length]? = some (.cells [.int .i64 (y.1 / 1024), .int .i64 (y.1 % 1024), .int .i64 y.2] .exact) := by rw [tl_get0]; rfl
    have hw := wrap_succ (show i < 9223372036854775807 by omega)
    unfold ref08_State_Do.s1
    refine wp_to hv (wp_t (decide_eq_true (by rw [m.s.lvl]; exact Int.ofNat_lt.2 hi)) (wp_to hv (wp_to r1 (wp_to r2 (wp_tmp (wp_to (rdI_of t0 rfl) ?_))))))
    rw [hH1]
    refine wp_to (rdI_of hb1' rfl) (wp_if (p := y.2 = x.2.2.2.1) rfl (fun e => ?_) (fun e => ?_))
    · refine wp_to (rdI_of hb1' rfl) ?_
      have hw2 : wr (K ++ [Blk.cells [.int .i64 (y.1 / 1024), .int .i64 (y.1 % 1024), .int .i64 y.2] .exact]) K.length 2 [.int .i64 x.2.2.2.2.1] = some (K ++ [Blk.cells [.int .i64 (y.1 / 1024), .int .i64 (y.1 % 1024), .int .i64 x.2.2.2.2.1] .exact]) := by
        rw [wr_t0, wr_c0 _ _ _ _ (by simp)]; rfl
      refine wp_to hw2 (wp_to (rd3_of (cts := ctL) (x := (y.1 / 1024, y.1 % 1024, x.2.2.2.2.1, ())) (by rw [tl_get0]; rfl) rfl) ?_)
      refine wp_app (hE.push _) rfl (by decide) (by omega) fun s' G' hE' hn' => wp_some ⟨s', ?_, ?_, ?_⟩
      · simp only [hw]
      · rw [if_pos e, List.map_append, rowsOf_append']; exact hE'
      · rw [hn', hn]
    · refine wp_to (rd3_of (cts := ctL) (x := (y.1 / 1024, y.1 % 1024, y.2, ())) t0 rfl) ?_
      refine wp_app (hE.push _) rfl (by decide) (by omega) fun s' G' hE' hn' => wp_some ⟨s', ?_, ?_, ?_⟩
      · simp only [hw]
      · rw [if_neg e, List.map_append, rowsOf_append']; exact hE'
      · rw [hn', hn]
  · rintro y K ⟨s, rfl, hE, hn⟩
    rw [List.take_length] at hE
    obtain ⟨hK, hb0, hb1⟩ := hst hE
    have hv : rdSl 3 K H.length 1 = some v.2.1 := rdSl_of hb0 rfl
    unfold ref08_State_Do.s1
    exact wp_to hv (wp_f (decide_eq_false (by rw [m.s.lvl]; exact Int.lt_irrefl _)) (wp_some ⟨s, rfl, hE, hn⟩))
  · exact ⟨_, rfl, h0, rfl⟩
end
end Ev
