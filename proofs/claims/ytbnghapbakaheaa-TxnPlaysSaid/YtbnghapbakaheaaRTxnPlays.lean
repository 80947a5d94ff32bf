/- What the law leans on: texts of this claim, put together. -/
import Derived.Test.YtbnghapbakaheaaEvCore
import Derived.Test.YtbnghapbakaheaaEvLoop
import Derived.Test.YtbnghapbakaheaaEvOpen
import Derived.Test.YtbnghapbakaheaaGRec
import Derived.Test.YtbnghapbakaheaaGRef07
import Derived.Test.YtbnghapbakaheaaGState
import Derived.Test.YtbnghapbakaheaaGRef08
import Derived.Test.YtbnghapbakaheaaGRef16
import Derived.Test.YtbnghapbakaheaaGLaw17
import Derived.Test.YtbnghapbakaheaaGTxn
import Derived.Test.YtbnghapbakaheaaRTxnPlaysa
import Derived.Test.YtbnghapbakaheaaRTxnPlaysb
set_option linter.unusedSimpArgs false
set_option linter.unusedVariables false
namespace Ev
open Go (IntKind)

section
variable {H G K : Heap} {u : RfV} {st : Sta} {w w' : P6} {t t' : Tx} {r : RoomT} {R B : Nat}
theorem pl_sealed (h : RfAt H u st) (id : Int) : WP (law17_sealed u id H) fun x => x.1.1 = mayS st id ∧ Keep (fun _ => False) H x.2 := by
  have k1 := Keep.app (fun _ => False) H [.cells (vC u) .exact]
  have h1 := h.keep k1 fun _ _ hf => hf
  have hv : rdSl 3 (H ++ [.cells (vC u) .exact]) H.length 0 = some u.1 := rdSl_of (by rw [tl_get0]; rfl) rfl
  have hlm : (st.sp.map rsp).length = st.sp.length := List.length_map _
  have hfew := h.w.few
  unfold law17_sealed
  refine wp_seq (fun x => x.2 = H ++ [.cells (vC u) .exact] ∧ ((x.1 = .inl () ∧ mayS st id = 80) ∨ x.1 = .inr (mayS st id, ()))) (wp_mono (wp_rise (step := law17_sealed.s1 id H) st.sp.length (fun i (y : Int × Unit) G => y = ((i : Int), ()) ∧ G = H ++ [.cells (vC u) .exact] ∧ ∀ j (hj : j < st.sp.length), j < i → st.sp[j].1 ≠ id)
    (fun (x : Unit ⊕ (Int × Unit)) G => G = H ++ [.cells (vC u) .exact] ∧ ((x = .inl () ∧ mayS st id = 80) ∨ x = .inr (mayS st id, ()))) ?_ ?_ ⟨rfl, rfl, fun j _ hj => absurd hj (Nat.not_lt_zero _)⟩) fun x hx => hx) ?_
  · rintro i y G hi ⟨rfl, rfl, hj⟩
    have hx : (st.sp.map rsp)[i]'(by omega) = rsp st.sp[i] := List.getElem_map _
    obtain ⟨b0, o0, r1, r2, _, cs, bk, r3, r4, r5⟩ := Row.rd (cts := ctP) (rows := st.sp.map rsp) h1.sp (i := i) (by omega) (by decide)
    have r1 : Sl.at 3 u.1 (i : Int) = some (b0, o0) := r1
    rw [hx] at r5
    have c0 : rdI .i64 (H ++ [.cells (vC u) .exact]) b0 o0 = some st.sp[i].1 := by
      refine rdI_of r3 ?_
      have := congrArg (fun l => l[0]?) r5
      simp only [List.getElem?_take, List.getElem?_drop] at this
      have h2 : cs[o0]? = (Tup.mk ctP (rsp st.sp[i]))[0]? := by simpa using this
      exact h2
    have c2 : rdB (H ++ [.cells (vC u) .exact]) b0 (o0 + 2) = some st.sp[i].2.2 := by
      refine rdB_of r3 ?_
      have := congrArg (fun l => l[2]?) r5
      simp only [List.getElem?_take, List.getElem?_drop] at this
      have h2 : cs[o0 + 2]? = (Tup.mk ctP (rsp st.sp[i]))[2]? := by simpa using this
      exact h2
    have hf := h.w.sp.find (k := st.sp[i].1) (v := st.sp[i].2) (List.getElem_mem hi)
    have hw := wrap_succ (show i < 9223372036854775807 by omega)
    unfold law17_sealed.s1
    refine wp_to hv (wp_t (decide_eq_true (by rw [h.spl]; exact Int.ofNat_lt.2 hi)) (wp_to hv (wp_to r1 (wp_to c0 (wp_if (p := st.sp[i].1 = id) rfl (fun e => ?_) (fun e => ?_))))))
    · rw [e] at hf
      refine wp_to hv (wp_to r1 (wp_to c2 (wp_c (fun eb => wp_some ⟨rfl, .inr ?_⟩) (fun eb => wp_some ⟨rfl, .inr ?_⟩))))
      · unfold mayS; rw [hf]; simp only [if_pos eb]
      · unfold mayS; rw [hf]; simp only [if_neg (show ¬ st.sp[i].2.2 = true by rw [eb]; decide)]
    · refine wp_some ⟨?_, rfl, fun j hjl hji => ?_⟩
      · simp only [hw]
      · by_cases e2 : j = i
        · subst e2; exact e
        · exact hj j hjl (by omega)
  · rintro y G ⟨rfl, rfl, hj⟩
    unfold law17_sealed.s1
    refine wp_to hv (wp_f (decide_eq_false (by rw [h.spl]; exact Int.lt_irrefl _)) (wp_some ⟨rfl, .inl ⟨rfl, ?_⟩⟩))
    unfold mayS
    rw [afind_none fun x hx e => by obtain ⟨j, hj1, rfl⟩ := List.getElem_of_mem hx; exact hj j hj1 hj1 e]
  · rintro ⟨x, G⟩ ⟨hG, hx⟩
    have hG : G = H ++ [.cells (vC u) .exact] := hG
    subst hG
    rcases hx with ⟨hx, hm⟩ | hx
    · have hx : x = .inl () := hx
      subst hx
      exact wp_some ⟨hm.symm, k1⟩
    · have hx : x = .inr (mayS st id, ()) := hx
      subst hx
      exact wp_some ⟨rfl, k1⟩
def nil6 : List C := [.sl 3 Sl.nil, .sl 3 Sl.nil, .sl 1 Sl.nil, .sl 2 Sl.nil, .sl 1 Sl.nil, .int .i64 0]
/-- In the middle of a method of a plain transaction. -/
structure TxM (H : Heap) (w : P6) (t : Tx) (r : RoomT) (R B : Nat) (G : Heap) : Prop where
  s : P6At G w t
  k : Keep (fun _ => False) H G
  b0 : G[H.length]? = some (.cells (v6C w) .exact)
  br : G[R]? = some (.cells [.int .i64 r.1, .int .i64 r.2.1, .int .i64 r.2.2.1, .int .i64 r.2.2.2.1] .exact)
  bB : G[B]? = some (.cells nil6 .exact)
  hB : H.length < B
  o : ∀ b, blk5 (p5 w) b → b < H.length
theorem TxM.keep (m : TxM H w t r R B G) (k : Keep (fun _ => False) G K) : TxM H w t r R B K :=
  ⟨m.s.keep k fun _ _ hf => hf, m.k.trans k, k.get m.b0 fun hf => hf, k.get m.br fun hf => hf, k.get m.bB fun hf => hf, m.hB, m.o⟩
theorem TxM.room (m : TxM H w t r R B G) : rd G (.agg [.int .i64, .int .i64, .int .i64, .int .i64]) R 0 = (some r : Option RoomT) := rd_agg_of m.br (by simp) (by obtain ⟨r1, r2, r3, r4, ⟨⟩⟩ := r; rfl)
theorem TxM.many (m : TxM H w t r R B G) : rdI .i64 G H.length 5 = some (t.many : Int) := by
  rw [← m.s.m]; exact rdI_of m.b0 rfl
def TxQ (H : Heap) (w : P6) (a : Int × Tx) (x : (P6 × Int × Unit) × Heap) : Prop := x.1.2.1 = a.1 ∧ P6Res H w x.2 x.1.1 a.2
theorem TxM.err (m : TxM H w t r R B G) {e : Int} {a : Int × Tx} (ha : a = (e, t)) :
    WP (Option.bind (α := P6) (rd G (.agg [.sl 3, .sl 3, .sl 1, .sl 2, .sl 1, .int .i64]) H.length 0) fun v4 => (wr G B 0 [.sl 3 v4.1, .sl 3 v4.2.1, .sl 1 v4.2.2.1, .sl 2 v4.2.2.2.1, .sl 1 v4.2.2.2.2.1, .int .i64 v4.2.2.2.2.2.1]).bind fun (H57 : Heap) => Option.bind (α := P6) (rd H57 (.agg [.sl 3, .sl 3, .sl 1, .sl 2, .sl 1, .int .i64]) B 0) fun v58 => some ((v58, e, ()), H57)) (TxQ H w a) := by
  subst ha
  have hB := m.hB
  exact wp_to (rd6 m.b0) (ret6 (w0 := w) m.s m.k (by omega) m.bB rfl (fun b hb => ⟨.inl hb, by have := m.o b hb; omega⟩) fun G' hr => ⟨rfl, hr⟩)
/-- The end: there is room, or not. -/
theorem TxM.fin (m : TxM H w t r R B G) {v : P5} {q : Pln} {N : Nat} (hv : P5At G v q) (hN : G[N]? = some (.cells (v5C v) .exact)) (hn : ∀ b, blk5 v b → (blk5 (p5 w) b ∨ H.length ≤ b) ∧ b ≠ B) (h8 : ¬ 8 ≤ t.many) {a : Int × Tx} (ha : a = if fitS q.st r = true then (0, ⟨q, t.many + 1⟩) else (172, t)) :
    WP (Option.bind (α := P5) (rd G (.agg [.sl 3, .sl 3, .sl 1, .sl 2, .sl 1]) N 0) fun (v23 : P5) =>
 Option.bind (α := RoomT) (rd G (.agg [.int .i64, .int .i64, .int .i64, .int .i64]) R 0) fun (v24 : RoomT) =>
 (ref16_Plain_Fits (v23.1, v23.2.1, v23.2.2.1, v23.2.2.2.1, v23.2.2.2.2.1, ()) (v24.1, v24.2.1, v24.2.2.1, v24.2.2.2.1, ()) G).bind fun (r25 : ((Bool × Unit) × Heap)) =>
 cond (!r25.1.1) (
 Option.bind (α := P6) (rd r25.2 (.agg [.sl 3, .sl 3, .sl 1, .sl 2, .sl 1, .int .i64]) H.length 0) fun (v26 : P6) =>
 (wr r25.2 B 0 [.sl 3 v26.1, .sl 3 v26.2.1, .sl 1 v26.2.2.1, .sl 2 v26.2.2.2.1, .sl 1 v26.2.2.2.2.1, .int .i64 v26.2.2.2.2.2.1]).bind fun (H27 : Heap) =>
 Option.bind (α := P6) (rd H27 (.agg [.sl 3, .sl 3, .sl 1, .sl 2, .sl 1, .int .i64]) B 0) fun (v28 : P6) =>
 some ((v28, 172, ()), H27)) (
 Option.bind (α := P5) (rd r25.2 (.agg [.sl 3, .sl 3, .sl 1, .sl 2, .sl 1]) N 0) fun (v29 : P5) =>
 (rdI .i64 r25.2 H.length 5).bind fun (v30 : Int) =>
 (wr r25.2 B 0 [.sl 3 v29.1, .sl 3 v29.2.1, .sl 1 v29.2.2.1, .sl 2 v29.2.2.2.1, .sl 1 v29.2.2.2.2.1, .int .i64 (IntKind.wrap .i64 (v30 + 1))]).bind fun (H31 : Heap) =>
 Option.bind (α := P6) (rd H31 (.agg [.sl 3, .sl 3, .sl 1, .sl 2, .sl 1, .int .i64]) B 0) fun (v32 : P6) =>
 some ((v32, 0, ()), H31))) (TxQ H w a) := by
  have hB := m.hB
  refine wp_to (rd5 hN) (wp_to m.room (wp_seq _ (pl_fits hv r) ?_))
  rintro ⟨⟨ff, ⟨⟩⟩, G3⟩ ⟨hfit, hk3⟩
  have hfit : ff = fitS q.st r := hfit
  subst hfit
  have hk3 : Keep (fun _ => False) G G3 := hk3
  have m3 := m.keep hk3
  refine wp_c (fun e9 => ?_) (fun e9 => ?_)
  · have e9 : ¬ fitS q.st r = true := by simpa using e9
    rw [if_neg e9] at ha
    exact m3.err ha
  · have e9 : fitS q.st r = true := by simpa using e9
    rw [if_pos e9] at ha
    subst ha
    refine wp_to (rd5 (hk3.get hN fun hf => hf)) (wp_to m3.many ?_)
    rw [wrap_succ (by omega)]
    exact ret6 (w' := (v.1, v.2.1, v.2.2.1, v.2.2.2.1, v.2.2.2.2.1, ((t.many + 1 : Nat) : Int), ())) (t' := ⟨q, t.many + 1⟩) (w0 := w) ⟨hv.keep hk3 fun _ _ hf => hf, rfl⟩ m3.k (by omega) m3.bB rfl hn fun G' hr => ⟨rfl, hr⟩
theorem tx_put (h : P6At H w t) (id p : Int) (text : Bytes) (r : RoomT) (size : Int) (hl : t.p.tx.length ≤ 90000) : WP (law17_Plain_Put w id p text r size H) (TxQ H w (t.putS id p text r size)) := by
  have m : TxM H w t r (H.length + 1) (H.length + 2) (H ++ [.cells (v6C w) .exact, .cells [.int .i64 r.1, .int .i64 r.2.1, .int .i64 r.2.2.1, .int .i64 r.2.2.2.1] .exact, .cells nil6 .exact]) :=
    ⟨h.keep (Keep.app (fun _ => False) H _) fun _ _ hf => hf, Keep.app _ _ _, by rw [tl_get0]; rfl, by rw [tl_get1]; rfl, by rw [tl_get1]; rfl, by omega, fun b hb => h.p.lt hb⟩
  unfold law17_Plain_Put
  simp only [List.append_assoc, List.cons_append, List.nil_append, List.length_append, List.length_cons, List.length_nil, Nat.zero_add]
  generalize hG : H ++ [Blk.cells [.sl 3 w.1, .sl 3 w.2.1, .sl 1 w.2.2.1, .sl 2 w.2.2.2.1, .sl 1 w.2.2.2.2.1, .int .i64 w.2.2.2.2.2.1] .exact, .cells [.int .i64 r.1, .int .i64 r.2.1, .int .i64 r.2.2.1, .int .i64 r.2.2.2.1] .exact, .cells [.sl 3 Sl.nil, .sl 3 Sl.nil, .sl 1 Sl.nil, .sl 2 Sl.nil, .sl 1 Sl.nil, .int .i64 0] .exact] = G0
  have hG : H ++ [Blk.cells (v6C w) .exact, .cells [.int .i64 r.1, .int .i64 r.2.1, .int .i64 r.2.2.1, .int .i64 r.2.2.2.1] .exact, .cells nil6 .exact] = G0 := hG
  rw [hG] at m
  refine wp_if (p := size < (text.length : Int)) rfl (fun e => ?_) (fun e => ?_)
  · exact m.err (by unfold Tx.putS; rw [if_pos e])
  refine wp_to (rd64 m.b0) (wp_seq _ (pl_sealed m.s.p.r id) ?_)
  rintro ⟨⟨ee, ⟨⟩⟩, G1⟩ ⟨he, hk1⟩
  have he : ee = mayS t.p.st id := he
  subst he
  have hk1 : Keep (fun _ => False) G0 G1 := hk1
  have m1 := m.keep hk1
  refine wp_if (p := ¬ mayS t.p.st id = 0) (by simp) (fun e0 => ?_) (fun e0 => ?_)
  · exact m1.err (by unfold Tx.putS; rw [if_neg e, if_pos e0])
  refine wp_to m1.many (wp_if (p := 8 ≤ t.many) (decide_eq_decide.2 (by omega)) (fun e8 => ?_) (fun e8 => ?_))
  · exact m1.err (by unfold Tx.putS Tx.stepP; rw [if_neg e, if_neg e0, if_pos e8])
  refine wp_to (rd65 m1.b0) (wp_seq _ (pl_put m1.s.p id p text hl) ?_)
  rintro ⟨⟨v', e', ⟨⟩⟩, G2⟩ ⟨he', q', hr, hq⟩
  have he' : e' = (t.p.st.applyS (1, id, p, 1000 + (t.p.tx.length : Int), 0, 0, ())).1 := he'
  have hr : P5Res G1 (p5 w) G2 v' q' := hr
  have m2 := m1.keep hr.k
  have hw : wr (G2 ++ [Blk.cells [.sl 3 Sl.nil, .sl 3 Sl.nil, .sl 1 Sl.nil, .sl 2 Sl.nil, .sl 1 Sl.nil] .exact]) G2.length 0 [.sl 3 v'.1, .sl 3 v'.2.1, .sl 1 v'.2.2.1, .sl 2 v'.2.2.2.1, .sl 1 v'.2.2.2.2.1] = some (G2 ++ [.cells (v5C v') .exact]) := by
    rw [wr_t0, wr_c0 _ _ _ _ (by simp)]; rfl
  have k3 := Keep.app (fun _ => False) G2 [.cells (v5C v') .exact]
  have m3 := m2.keep k3
  have hB1 := get_lt m1.bB
  refine wp_to hw (wp_if (p := ¬ e' = 0) (by simp) (fun e1 => ?_) (fun e1 => ?_))
  · refine m3.err ?_
    unfold Tx.putS Tx.stepP putR
    rw [he'] at e1
    rw [if_neg e, if_neg e0, if_neg e8, if_pos e1, he']
  · have e1' : e' = 0 := Decidable.byContradiction e1
    have hq := hq (he'.symm.trans e1')
    subst hq
    refine m3.fin (hr.s.keep k3 fun _ _ hf => hf) (by rw [tl_get0]; rfl) (fun b hb => ?_) e8 ?_
    · rcases hr.n b hb with hh | hh
      · have := m.o b hh
        exact ⟨.inl hh, by omega⟩
      · have := m1.k.len
        exact ⟨.inr (by omega), by omega⟩
    · unfold Tx.putS Tx.stepP putR
      rw [he'] at e1
      rw [if_neg e, if_neg e0, if_neg e8, if_neg e1]
end
end Ev

namespace Ev
open Go (IntKind)

section
variable {H G K : Heap} {u : RfV} {st : Sta} {w w' : P6} {t t' : Tx} {r : RoomT} {R B : Nat}
def BoxQ (H : Heap) (w : P6) (t : Tx) (B : Nat) (G : Heap) : Prop := P6Res H w G w t ∧ G[B]? = some (.cells (v6C w) .exact)
theorem TxM.box (m : TxM H w t r R B G) {e : Int} :
    WP (Option.bind (α := P6) (rd G (.agg [.sl 3, .sl 3, .sl 1, .sl 2, .sl 1, .int .i64]) H.length 0) fun v4 => (wr G B 0 [.sl 3 v4.1, .sl 3 v4.2.1, .sl 1 v4.2.2.1, .sl 2 v4.2.2.2.1, .sl 1 v4.2.2.2.2.1, .int .i64 v4.2.2.2.2.2.1]).bind fun (H57 : Heap) => (some (Sum.inr (e, ()), H57) : Option ((Unit ⊕ (Int × Unit)) × Heap))) fun x => x.1 = .inr (e, ()) ∧ BoxQ H w t B x.2 := by
  have hB := m.hB
  refine wp_to (rd6 m.b0) (wp_to (wr6 m.bB rfl w) (wp_some ⟨rfl, P6Res.box m.s m.k (by omega) (fun b hb => ⟨.inl hb, by have := m.o b hb; omega⟩) _, set_get (get_lt m.bB)⟩))
theorem BoxQ.ret (h : BoxQ H w t B G) {e : Int} {a : Int × Tx} (ha : a = (e, t)) : WP (Option.bind (α := P6) (rd G (.agg [.sl 3, .sl 3, .sl 1, .sl 2, .sl 1, .int .i64]) B 0) fun v57 => some ((v57, e, ()), G)) (TxQ H w a) := by
  subst ha
  exact wp_to (rd6 h.2) (wp_some ⟨rfl, h.1⟩)
theorem tx_do (h : P6At H w t) (x : RecT) (r : RoomT) : WP (law17_Plain_Do w x r H) (TxQ H w (t.doS x r)) := by
  have m : TxM H w t r (H.length + 2) (H.length + 3) (H ++ [.cells (v6C w) .exact, recB x, .cells [.int .i64 r.1, .int .i64 r.2.1, .int .i64 r.2.2.1, .int .i64 r.2.2.2.1] .exact, .cells nil6 .exact]) :=
    ⟨h.keep (Keep.app (fun _ => False) H _) fun _ _ hf => hf, Keep.app _ _ _, by rw [tl_get0]; rfl, by rw [tl_get1]; rfl, by rw [tl_get1]; rfl, by omega, fun b hb => h.p.lt hb⟩
  have tx : (H ++ [.cells (v6C w) .exact, recB x, .cells [.int .i64 r.1, .int .i64 r.2.1, .int .i64 r.2.2.1, .int .i64 r.2.2.2.1] .exact, .cells nil6 .exact])[H.length + 1]? = some (recB x) := by rw [tl_get1]; rfl
  unfold law17_Plain_Do
  simp only [List.append_assoc, List.cons_append, List.nil_append, List.length_append, List.length_cons, List.length_nil, Nat.zero_add]
  generalize hG : H ++ [Blk.cells [.sl 3 w.1, .sl 3 w.2.1, .sl 1 w.2.2.1, .sl 2 w.2.2.2.1, .sl 1 w.2.2.2.2.1, .int .i64 w.2.2.2.2.2.1] .exact, .cells [.int .i64 x.1, .int .i64 x.2.1, .int .i64 x.2.2.1, .int .i64 x.2.2.2.1, .int .i64 x.2.2.2.2.1, .int .i64 x.2.2.2.2.2.1] .exact, .cells [.int .i64 r.1, .int .i64 r.2.1, .int .i64 r.2.2.1, .int .i64 r.2.2.2.1] .exact, .cells [.sl 3 Sl.nil, .sl 3 Sl.nil, .sl 1 Sl.nil, .sl 2 Sl.nil, .sl 1 Sl.nil, .int .i64 0] .exact] = G0
  have hG : H ++ [.cells (v6C w) .exact, recB x, .cells [.int .i64 r.1, .int .i64 r.2.1, .int .i64 r.2.2.1, .int .i64 r.2.2.2.1] .exact, .cells nil6 .exact] = G0 := hG
  rw [hG] at m tx
  have rx : ∀ {G : Heap}, G[H.length + 1]? = some (recB x) → rd G (.agg [.int .i64, .int .i64, .int .i64, .int .i64, .int .i64, .int .i64]) (H.length + 1) 0 = (some x : Option RecT) := fun hb => rd_agg_of hb (by simp) (by obtain ⟨a, b, c, d, e, f, ⟨⟩⟩ := x; rfl)
  have hc : ref07_Check (x.1, x.2.1, x.2.2.1, x.2.2.2.1, x.2.2.2.2.1, x.2.2.2.2.2.1, ()) = some (chkR x, ()) := by
    obtain ⟨a, b, c, d, e, f, ⟨⟩⟩ := x
    exact ref07_check_eq _
  refine wp_seq (fun p => (p.1 = .inl () ∧ (ownK x = true ∧ chkR x = true) ∧ p.2 = G0) ∨ (p.1 = .inr (1, ()) ∧ ¬ (ownK x = true ∧ chkR x = true) ∧ BoxQ H w t (H.length + 3) p.2)) ?_ ?_
  · have hchk : ∀ ho : ownK x = true, WP (Option.bind (α := RecT) (rd G0 (.agg [.int .i64, .int .i64, .int .i64, .int .i64, .int .i64, .int .i64]) (H.length + 1) 0) fun v6 =>
        (ref07_Check (v6.1, v6.2.1, v6.2.2.1, v6.2.2.2.1, v6.2.2.2.2.1, v6.2.2.2.2.2.1, ())).bind fun (r7 : (Bool × Unit)) =>
        cond (!r7.1) (Option.bind (α := P6) (rd G0 (.agg [.sl 3, .sl 3, .sl 1, .sl 2, .sl 1, .int .i64]) H.length 0) fun v8 => (wr G0 (H.length + 3) 0 [.sl 3 v8.1, .sl 3 v8.2.1, .sl 1 v8.2.2.1, .sl 2 v8.2.2.2.1, .sl 1 v8.2.2.2.2.1, .int .i64 v8.2.2.2.2.2.1]).bind fun (H9 : Heap) => (some (Sum.inr (1, ()), H9) : Option ((Unit ⊕ (Int × Unit)) × Heap))) (some (Sum.inl (), G0)))
        fun p => (p.1 = .inl () ∧ (ownK x = true ∧ chkR x = true) ∧ p.2 = G0) ∨ (p.1 = .inr (1, ()) ∧ ¬ (ownK x = true ∧ chkR x = true) ∧ BoxQ H w t (H.length + 3) p.2) := fun ho => by
      refine wp_to (rx tx) (wp_to hc (wp_c (fun e => ?_) (fun e => ?_)))
      · have e : ¬ chkR x = true := by simpa using e
        exact wp_mono m.box fun y hy => .inr ⟨hy.1, fun hh => e hh.2, hy.2⟩
      · have e : chkR x = true := by simpa using e
        exact wp_some (.inl ⟨rfl, ⟨ho, e⟩, rfl⟩)
    refine wp_to (rdI_of tx (n := x.1) rfl) (wp_if (p := x.1 = 2) rfl (fun e => ?_) (fun e => ?_))
    · exact hchk (by unfold ownK; exact decide_eq_true (.inl e))
    · refine wp_to (rdI_of tx (n := x.1) rfl) (wp_if (p := 4 ≤ x.1) rfl (fun e2 => ?_) (fun e2 => ?_))
      · refine wp_to (rdI_of tx (n := x.1) rfl) (wp_if (p := ¬ x.1 ≤ 7) decide_not.symm (fun e3 => ?_) (fun e3 => ?_))
        · exact wp_mono m.box fun y hy => .inr ⟨hy.1, fun hh => by
            have h1 := hh.1
            unfold ownK at h1
            have := of_decide_eq_true h1
            omega, hy.2⟩
        · exact hchk (by unfold ownK; exact decide_eq_true (.inr ⟨e2, by omega⟩))
      · exact wp_mono m.box fun y hy => .inr ⟨hy.1, fun hh => by
          have h1 := hh.1
          unfold ownK at h1
          have := of_decide_eq_true h1
          omega, hy.2⟩
  rintro ⟨p, G1⟩ (⟨hp, ho, hG1⟩ | ⟨hp, hno, hbox⟩)
  · have hp : p = .inl () := hp
    have hG1 : G1 = G0 := hG1
    subst hp hG1
    have hk : x.1 = 2 ∨ (4 ≤ x.1 ∧ x.1 ≤ 7) := by
      have h1 := ho.1
      unfold ownK at h1
      exact of_decide_eq_true h1
    have hd : t.doS x r = if x.1 = 2 ∧ mayS t.p.st x.2.1 ≠ 0 then (mayS t.p.st x.2.1, t) else t.stepD x r := by unfold Tx.doS; rw [if_pos ho]
    refine wp_seq (fun p => (p.1 = .inl () ∧ ¬ (x.1 = 2 ∧ mayS t.p.st x.2.1 ≠ 0) ∧ Keep (fun _ => False) G1 p.2) ∨ (p.1 = .inr (mayS t.p.st x.2.1, ()) ∧ (x.1 = 2 ∧ mayS t.p.st x.2.1 ≠ 0) ∧ BoxQ H w t (H.length + 3) p.2)) ?_ ?_
    · refine wp_to (rdI_of tx (n := x.1) rfl) (wp_if (p := x.1 = 2) rfl (fun e => ?_) (fun e => ?_))
      · refine wp_to (rd64 m.b0) (wp_to (rdI_of tx (n := x.2.1) rfl) (wp_seq _ (pl_sealed m.s.p.r x.2.1) ?_))
        rintro ⟨⟨ee, ⟨⟩⟩, G2⟩ ⟨he, hk2⟩
        have he : ee = mayS t.p.st x.2.1 := he
        subst he
        have hk2 : Keep (fun _ => False) G1 G2 := hk2
        refine wp_if (p := ¬ mayS t.p.st x.2.1 = 0) (by simp) (fun e0 => ?_) (fun e0 => ?_)
        · exact wp_mono (m.keep hk2).box fun y hy => .inr ⟨hy.1, ⟨e, e0⟩, hy.2⟩
        · exact wp_some (.inl ⟨rfl, fun hh => e0 hh.2, hk2⟩)
      · exact wp_some (.inl ⟨rfl, fun hh => e hh.1, Keep.refl _ _⟩)
    rintro ⟨p, G2⟩ (⟨hp, hn, hk2⟩ | ⟨hp, hy, hbox⟩)
    · have hp : p = .inl () := hp
      subst hp
      have hk2 : Keep (fun _ => False) G1 G2 := hk2
      have m2 := m.keep hk2
      have tx2 := hk2.get tx fun hf => hf
      rw [if_neg hn] at hd
      refine wp_to m2.many (wp_if (p := 8 ≤ t.many) (decide_eq_decide.2 (by omega)) (fun e8 => ?_) (fun e8 => ?_))
      · exact m2.err (by rw [hd]; unfold Tx.stepD; rw [if_pos e8])
      refine wp_to (rd64 m2.b0) (wp_to (rx tx2) (wp_seq _ (rf_Do m2.s.p.r (x := x) (fun _ => chk_good ho.2) (chk_nine ho.2)) ?_))
      rintro ⟨⟨v', e', ⟨⟩⟩, G3⟩ ⟨he', hr⟩
      have he' : e' = (t.p.st.applyS x).1 := he'
      have hr : RRes G2 (p4 (p5 w)) G3 v' (t.p.st.applyS x).2 := hr
      have m3 := m2.keep hr.k
      have hw : wr (G3 ++ [Blk.cells [.sl 3 Sl.nil, .sl 3 Sl.nil, .sl 1 Sl.nil, .sl 2 Sl.nil] .exact]) G3.length 0 [.sl 3 v'.1, .sl 3 v'.2.1, .sl 1 v'.2.2.1, .sl 2 v'.2.2.2.1] = some (G3 ++ [.cells (vC v') .exact]) := by
        rw [wr_t0, wr_c0 _ _ _ _ (by simp)]; rfl
      have k4 := Keep.app (fun _ => False) G3 [.cells (vC v') .exact]
      have m4 := m3.keep k4
      have u4 : (G3 ++ [Blk.cells (vC v') .exact])[G3.length]? = some (.cells (vC v') .exact) := by rw [tl_get0]; rfl
      refine wp_to hw (wp_if (p := ¬ e' = 0) (by simp) (fun e1 => ?_) (fun e1 => ?_))
      · refine m4.err ?_
        rw [he'] at e1
        rw [hd]
        unfold Tx.stepD
        rw [if_neg e8, if_pos e1, he']
      · have hs4 : rdSl 1 (G3 ++ [Blk.cells (vC v') .exact]) H.length 4 = some w.2.2.2.2.1 := rdSl_of m4.b0 rfl
        have hw5 : wr (G3 ++ [Blk.cells (vC v') .exact] ++ [.cells [.sl 3 Sl.nil, .sl 3 Sl.nil, .sl 1 Sl.nil, .sl 2 Sl.nil, .sl 1 Sl.nil] .exact]) (G3 ++ [Blk.cells (vC v') .exact]).length 0 [.sl 3 v'.1, .sl 3 v'.2.1, .sl 1 v'.2.2.1, .sl 2 v'.2.2.2.1, .sl 1 w.2.2.2.2.1] = some (G3 ++ [Blk.cells (vC v') .exact] ++ [.cells (v5C (v'.1, v'.2.1, v'.2.2.1, v'.2.2.2.1, w.2.2.2.2.1, ())) .exact]) := by
          rw [wr_t0, wr_c0 _ _ _ _ (by simp)]; rfl
        have k5 := Keep.app (fun _ => False) (G3 ++ [Blk.cells (vC v') .exact]) [.cells (v5C (v'.1, v'.2.1, v'.2.2.1, v'.2.2.2.1, w.2.2.2.2.1, ())) .exact]
        have m5 := m4.keep k5
        have hN : (G3 ++ [Blk.cells (vC v') .exact] ++ [.cells (v5C (v'.1, v'.2.1, v'.2.2.1, v'.2.2.2.1, w.2.2.2.2.1, ())) .exact])[(G3 ++ [Blk.cells (vC v') .exact]).length]? = some (.cells (v5C (v'.1, v'.2.1, v'.2.2.1, v'.2.2.2.1, w.2.2.2.2.1, ())) .exact) := by rw [tl_get0]; rfl
        have hv5 : P5At (G3 ++ [Blk.cells (vC v') .exact] ++ [.cells (v5C (v'.1, v'.2.1, v'.2.2.1, v'.2.2.2.1, w.2.2.2.2.1, ())) .exact]) (v'.1, v'.2.1, v'.2.2.1, v'.2.2.2.1, w.2.2.2.2.1, ()) ⟨(t.p.st.applyS x).2, t.p.tx⟩ :=
          ⟨(hr.s.keep k4 fun _ _ hf => hf).keep k5 fun _ _ hf => hf, m5.s.p.t, m5.s.p.tl⟩
        generalize hG6 : G3 ++ [Blk.cells (vC v') .exact] ++ [.cells (v5C (v'.1, v'.2.1, v'.2.2.1, v'.2.2.2.1, w.2.2.2.2.1, ())) .exact] = G6 at hw5 m5 hN hv5
        refine wp_to (rd4 u4) (wp_to hs4 (wp_to hw5 (m5.fin hv5 hN (fun b hb => ?_) e8 ?_)))
        · rcases hb with hb | hb
          · rcases hr.n b hb with hh | hh
            · have := m.o b (.inl hh)
              exact ⟨.inl (.inl hh), by omega⟩
            · have h1 := m2.k.len
              have h2 := get_lt m2.bB
              exact ⟨.inr (by omega), by omega⟩
          · have := m.o b (.inr hb)
            exact ⟨.inl (.inr hb), by omega⟩
        · rw [he'] at e1
          rw [hd]
          unfold Tx.stepD
          rw [if_neg e8, if_neg e1]
    · have hp : p = .inr (mayS t.p.st x.2.1, ()) := hp
      subst hp
      rw [if_pos hy] at hd
      exact hbox.ret hd
  · have hp : p = .inr (1, ()) := hp
    subst hp
    exact hbox.ret (by unfold Tx.doS; rw [if_neg hno])
end
end Ev

namespace Ev
open Go (IntKind)

def mapV (g : Int → Int) (l : List (Int × Int)) : List (Int × Int) := l.map fun x => (x.1, g x.2)
def mapSt (g : Int → Int) (st : Sta) : Sta := ⟨st.sp, mapV g st.lv, st.bd, st.wn⟩
section
variable {g : Int → Int} {l : List (Int × Int)} {st : Sta}
theorem mapV_asc (h : Asc l) : Asc (mapV g l) := asc_map h _ fun _ => rfl
theorem mapV_find (l : List (Int × Int)) (k : Int) : afind (mapV g l) k = (afind l k).map g := by
  induction l with
  | nil => rfl
  | cons x l ih =>
    show (if x.1 = k then some (g x.2) else afind (mapV g l) k) = Option.map g (if x.1 = k then some x.2 else afind l k)
    by_cases e : x.1 = k
    · rw [if_pos e, if_pos e]; rfl
    · rw [if_neg e, if_neg e, ih]
theorem mapV_ins (h : Asc l) (k v : Int) : mapV g (ains l k v) = ains (mapV g l) k (g v) :=
  asc_ext (mapV_asc (h.ins _ _)) ((mapV_asc h).ins _ _) fun j => by
    rw [mapV_find, afind_ins h, afind_ins (mapV_asc h), mapV_find]
    by_cases e : j = k
    · rw [if_pos e, if_pos e]; rfl
    · rw [if_neg e, if_neg e]
theorem mapV_drop (h : Asc l) (k : Int) : mapV g (adrop l k) = adrop (mapV g l) k :=
  asc_ext (mapV_asc (h.drop _)) ((mapV_asc h).drop _) fun j => by
    rw [mapV_find, afind_drop h, afind_drop (mapV_asc h), mapV_find]
    by_cases e : j = k
    · rw [if_pos e, if_pos e]; rfl
    · rw [if_neg e, if_neg e]
theorem mapV_off (l : List (Int × Int)) (id : Int) : mapV g (lvOff l id) = lvOff (mapV g l) id := by
  unfold mapV lvOff
  rw [List.filter_map]; rfl
theorem mapV_pgs (l : List (Int × Int)) (id : Int) : pgs (mapV g l) id = mapV g (pgs l id) := by
  unfold mapV pgs
  rw [List.filter_map, List.map_map, List.map_map]; rfl
theorem mapV_insAll (id : Int) : ∀ (P l : List (Int × Int)), Asc l → mapV g (insAll id l P) = insAll id (mapV g l) (mapV g P)
  | [], l, _ => rfl
  | x :: P, l, h => by
    have := mapV_insAll id P (ains l (id * 1024 + x.1) x.2) (h.ins _ _)
    unfold insAll at this ⊢
    rw [List.foldl_cons, this, mapV_ins h]
    rfl
theorem mapV_len (l : List (Int × Int)) : (mapV g l).length = l.length := List.length_map _
theorem mapSt_spI (id : Int) : spI (mapSt g st) id = spI st id := by
  unfold spI
  rw [show afind (mapSt g st).sp id = afind st.sp id from rfl]
  cases afind st.sp id with
  | none => rfl
  | some x =>
    show (id, x.1, ((pgs (mapV g st.lv) id).length : Int), x.2, ()) = _
    rw [mapV_pgs, mapV_len]
theorem mapSt_infos : infos (mapSt g st) = infos st := List.map_congr_left fun x _ => mapSt_spI x.1
/-- A record that puts no page. -/
theorem mapSt_apply (w : SaW st) {x : RecT} (hk : x.1 = 2 ∨ (4 ≤ x.1 ∧ x.1 ≤ 7)) : (mapSt g st).applyS x = ((st.applyS x).1, mapSt g (st.applyS x).2) := by
  unfold Sta.applyS
  rw [if_neg (show ¬ x.1 = 3 by omega), if_neg (show ¬ x.1 = 8 by omega), if_neg (show ¬ x.1 = 9 by omega), if_neg (show ¬ x.1 = 3 by omega), if_neg (show ¬ x.1 = 8 by omega), if_neg (show ¬ x.1 = 9 by omega)]
  by_cases k4 : x.1 = 4
  · rw [if_pos k4, if_pos k4]
    unfold Sta.openS
    show (if (afind st.sp x.2.1).isSome = true then _ else _) = _
    by_cases e : (afind st.sp x.2.1).isSome = true
    · rw [if_pos e, if_pos e]
    · rw [if_neg e, if_neg e]; rfl
  rw [if_neg k4, if_neg k4]
  show (match afind st.sp x.2.1 with | none => _ | some s => _) = _
  cases hf : afind st.sp x.2.1 with
  | none => rfl
  | some s =>
    simp only
    rw [if_neg (show ¬ x.1 = 1 by omega), if_neg (show ¬ x.1 = 1 by omega)]
    by_cases k2 : x.1 = 2
    · rw [if_pos k2, if_pos k2]
      have e1 : (afind (pgs (mapSt g st).lv x.2.1) x.2.2.1).isSome = (afind (pgs st.lv x.2.1) x.2.2.1).isSome := by
        show (afind (pgs (mapV g st.lv) x.2.1) x.2.2.1).isSome = _
        rw [mapV_pgs, mapV_find, Option.isSome_map]
      rw [e1]
      by_cases e : (afind (pgs st.lv x.2.1) x.2.2.1).isSome = true
      · rw [if_pos e, if_pos e]
        show (0, _) = (0, mapSt g _)
        unfold mapSt
        rw [mapV_drop w.lv]
      · rw [if_neg e, if_neg e]
    rw [if_neg k2, if_neg k2]
    by_cases k5 : x.1 = 5
    · rw [if_pos k5, if_pos k5]
      show (0, _) = (0, mapSt g _)
      unfold mapSt
      rw [mapV_off]
    rw [if_neg k5, if_neg k5]
    by_cases k6 : x.1 = 6
    · rw [if_pos k6, if_pos k6]
      unfold Sta.openS
      show (if (afind st.sp x.2.2.2.2.1).isSome = true then _ else _) = _
      by_cases e : (afind st.sp x.2.2.2.2.1).isSome = true
      · rw [if_pos e, if_pos e]
      · rw [if_neg e, if_neg e]
        show (0, _) = (0, mapSt g _)
        unfold mapSt
        rw [mapV_insAll _ _ _ w.lv, mapV_pgs]
    rw [if_neg k6, if_neg k6]
    rfl
theorem mapSt_put (w : SaW st) (id p v : Int) : (mapSt g st).applyS (1, id, p, g v, 0, 0, ()) = ((st.applyS (1, id, p, v, 0, 0, ())).1, mapSt g (st.applyS (1, id, p, v, 0, 0, ())).2) := by
  unfold Sta.applyS
  show (match afind st.sp id with | none => _ | some s => if p < 0 then _ else if s.1 ≤ p then _ else _) = _
  show _ = ((match afind st.sp id with | none => ((80, st) : Int × Sta) | some s => if p < 0 then (81, st) else if s.1 ≤ p then (81, st) else (0, ⟨st.sp, ains st.lv (id * 1024 + p) v, st.bd, st.wn⟩)).1, mapSt g (match afind st.sp id with | none => ((80, st) : Int × Sta) | some s => if p < 0 then (81, st) else if s.1 ≤ p then (81, st) else (0, ⟨st.sp, ains st.lv (id * 1024 + p) v, st.bd, st.wn⟩)).2)
  cases afind st.sp id with
  | none => rfl
  | some s =>
    simp only
    by_cases e1 : p < 0
    · rw [if_pos e1, if_pos e1]
    · rw [if_neg e1, if_neg e1]
      by_cases e2 : s.1 ≤ p
      · rw [if_pos e2, if_pos e2]
      · rw [if_neg e2, if_neg e2]
        show (0, _) = (0, mapSt g _)
        unfold mapSt
        rw [mapV_ins w.lv]
/-- As many places. -/
theorem rf_keys (lv : List (Int × Int)) (c : Int) : c ∈ (rfOf lv).map Prod.fst ↔ ∃ x ∈ lv, x.2 = c := by
  rw [← afind_isSome, (rfOf_ok lv).find]
  constructor
  · intro h
    by_cases e : cnt lv c = 0
    · rw [if_pos e] at h; cases h
    · exact cnt_mem e
  · rintro ⟨x, hx, rfl⟩
    have : cnt lv x.2 ≠ 0 := fun e => by
      unfold cnt at e
      have := List.length_eq_zero_iff.1 e
      rw [List.filter_eq_nil_iff] at this
      exact this x hx (by simp)
    rw [if_neg this]; rfl
theorem mapV_live (inj : ∀ x ∈ l, ∀ y ∈ l, g x.2 = g y.2 → x.2 = y.2) : (rfOf (mapV g l)).length = (rfOf l).length := by
  have nA : ((rfOf l).map Prod.fst).Nodup := keys_nodup (rfOf_ok _).asc
  have nB : ((rfOf (mapV g l)).map Prod.fst).Nodup := keys_nodup (rfOf_ok _).asc
  have nA' : (((rfOf l).map Prod.fst).map g).Nodup := nodup_map_on nA fun a ha b hb e => by
    obtain ⟨x, hx, rfl⟩ := (rf_keys l a).1 ha
    obtain ⟨y, hy, rfl⟩ := (rf_keys l b).1 hb
    exact inj x hx y hy e
  have h1 := nodup_len (ks := (rfOf (mapV g l)).map Prod.fst) nA' fun n hn => by
    obtain ⟨c, hc, rfl⟩ := List.mem_map.1 hn
    obtain ⟨x, hx, rfl⟩ := (rf_keys l c).1 hc
    exact (rf_keys _ _).2 ⟨(x.1, g x.2), List.mem_map.2 ⟨x, hx, rfl⟩, rfl⟩
  have h2 := nodup_len (ks := ((rfOf l).map Prod.fst).map g) nB fun n hn => by
    obtain ⟨y, hy, rfl⟩ := (rf_keys _ n).1 hn
    obtain ⟨x, hx, rfl⟩ := List.mem_map.1 hy
    exact List.mem_map.2 ⟨x.2, (rf_keys l _).2 ⟨x, hx, rfl⟩, rfl⟩
  simp only [List.length_map] at h1 h2
  omega
end
/-- Where a plain transaction's pages stand in a transaction. -/
def phi (v : Int) : Int := if v < 1000 then v else v - 488
structure TxOK (t : Tx) : Prop where
  w : SaW t.p.st
  at_ : ∀ x ∈ t.p.st.lv, (0 ≤ x.2 ∧ x.2 ≤ 511) ∨ (1000 ≤ x.2 ∧ x.2 < 1000 + (t.p.tx.length : Int))
theorem phi_inj {t : Tx} (h : TxOK t) : ∀ x ∈ t.p.st.lv, ∀ y ∈ t.p.st.lv, phi x.2 = phi y.2 → x.2 = y.2 := fun x hx y hy e => by
  have h1 := h.at_ x hx
  have h2 := h.at_ y hy
  unfold phi at e
  split at e <;> split at e <;> omega
theorem TxOK.step {t : Tx} (h : TxOK t) {x : RecT} (hc : chkR x = true) (hk : x.1 = 2 ∨ (4 ≤ x.1 ∧ x.1 ≤ 7)) (n : Nat) : TxOK ⟨⟨(t.p.st.applyS x).2, t.p.tx⟩, n⟩ := by
  have w' := h.w.doS x
  unfold Sta.doS at w'
  rw [if_pos hc] at w'
  exact ⟨w', fun y hy => by
    obtain ⟨z, hz, e⟩ := applyS_vals h.w hk y hy
    show (0 ≤ y.2 ∧ y.2 ≤ 511) ∨ (1000 ≤ y.2 ∧ y.2 < 1000 + (t.p.tx.length : Int))
    rw [← e]
    exact h.at_ z hz⟩
theorem TxOK.put {t : Tx} (h : TxOK t) (id p : Int) (text : Bytes) (n : Nat) : TxOK ⟨⟨(t.p.st.applyS (putR t id p)).2, t.p.tx ++ [text]⟩, n⟩ := by
  have hl : (t.p.tx ++ [text]).length = t.p.tx.length + 1 := by simp
  have hold : ∀ x ∈ t.p.st.lv, (0 ≤ x.2 ∧ x.2 ≤ 511) ∨ (1000 ≤ x.2 ∧ x.2 < 1000 + (((t.p.tx ++ [text]).length : Nat) : Int)) := fun x hx => by
    have := h.at_ x hx
    rw [hl]; omega
  unfold putR Sta.applyS
  show TxOK ⟨⟨(match afind t.p.st.sp id with | none => ((80, t.p.st) : Int × Sta) | some s => if p < 0 then (81, t.p.st) else if s.1 ≤ p then (81, t.p.st) else (0, ⟨t.p.st.sp, ains t.p.st.lv (id * 1024 + p) (1000 + (t.p.tx.length : Int)), t.p.st.bd, t.p.st.wn⟩)).2, t.p.tx ++ [text]⟩, n⟩
  cases hf : afind t.p.st.sp id with
  | none => exact ⟨h.w, hold⟩
  | some s =>
    have hids := h.w.ids _ (afind_mem hf)
    simp only
    by_cases e1 : p < 0
    · rw [if_pos e1]; exact ⟨h.w, hold⟩
    · rw [if_neg e1]
      by_cases e2 : s.1 ≤ p
      · rw [if_pos e2]; exact ⟨h.w, hold⟩
      · rw [if_neg e2]
        refine ⟨h.w.key hf (by have := hids.2.2; simp only at this; omega) _, fun x hx => ?_⟩
        rcases ains_mem hx with e | e
        · rw [e]
          right
          show 1000 ≤ 1000 + (t.p.tx.length : Int) ∧ 1000 + (t.p.tx.length : Int) < 1000 + (((t.p.tx ++ [text]).length : Nat) : Int)
          rw [hl]; omega
        · exact hold x e
end Ev

namespace Ev
open Go (IntKind)

def heldL : Int → List Bytes → List (Int × Bytes)
  | _, [] => []
  | n, x :: l => (n, x) :: heldL (n + 1) l
theorem heldL_low : ∀ (l : List Bytes) (n : Int), ∀ x ∈ heldL n l, n ≤ x.1 ∧ x.1 < n + (l.length : Int)
  | [], n, x, h => by cases h
  | y :: l, n, x, h => by
    rcases List.mem_cons.1 h with rfl | h
    · show n ≤ n ∧ n < n + (((y :: l).length : Nat) : Int)
      rw [List.length_cons]; omega
    · have := heldL_low l (n + 1) x h
      rw [List.length_cons]; omega
theorem heldL_snoc : ∀ (l : List Bytes) (n : Int) (x : Bytes), heldL n (l ++ [x]) = heldL n l ++ [(n + (l.length : Int), x)]
  | [], n, x => by show [(n, x)] = [(n + 0, x)]; rw [Int.add_zero]
  | y :: l, n, x => by
    show (n, y) :: heldL (n + 1) (l ++ [x]) = (n, y) :: (heldL (n + 1) l ++ _)
    rw [heldL_snoc l (n + 1) x, List.length_cons, show n + 1 + (l.length : Int) = n + ((l.length + 1 : Nat) : Int) by omega]
theorem heldL_ins (l : List Bytes) (n : Int) (x : Bytes) : ains (heldL n l) (n + (l.length : Int)) x = heldL n (l ++ [x]) := by
  rw [heldL_snoc]
  exact ains_snoc x fun y hy => (heldL_low l n y hy).2
theorem heldL_find : ∀ (l : List Bytes) (n k : Int), afind (heldL n l) k = if n ≤ k ∧ k < n + (l.length : Int) then l[(k - n).toNat]? else none
  | [], n, k => by rw [if_neg (by rw [List.length_nil]; omega)]; rfl
  | y :: l, n, k => by
    show (if n = k then some y else afind (heldL (n + 1) l) k) = _
    by_cases e : n = k
    · rw [if_pos e, if_pos (by rw [List.length_cons]; omega), show (k - n).toNat = 0 by omega]; rfl
    · rw [if_neg e, heldL_find l (n + 1) k]
      by_cases h : n + 1 ≤ k ∧ k < n + 1 + (l.length : Int)
      · rw [if_pos h, if_pos (by rw [List.length_cons]; omega), show (k - n).toNat = (k - (n + 1)).toNat + 1 by omega]; rfl
      · rw [if_neg h, if_neg (by rw [List.length_cons]; omega)]
theorem mp_ne' {H : Heap} {b c : Nat} {cs : List C} {bk : BK} {α : Type} {f : Int → α → W} {l : List (Int × α)} (h : H[c]? = some (.cells cs bk)) (hm : MpA H b f l) : c ≠ b := Ne.symm (mp_ne h hm)
def strW (_ : Int) (s : Bytes) : W := .one (.str s)
abbrev ctC : List CT := [.int .i64, .int .i64, .int .i64, .int .i64, .int .i64, .int .i64, .str]
abbrev ChT := Int × Int × Int × Int × Int × Int × Bytes × Unit
structure TnA where
  s : SaA
  sl : Sl
  h : Nat
def tnC (p : Ptr) (sl : Sl) (r : RoomT) (size : Int) (h : Nat) (next : Int) : Blk := .cells [.ptr p, .sl 7 sl, .int .i64 r.1, .int .i64 r.2.1, .int .i64 r.2.2.1, .int .i64 r.2.2.2.1, .int .i64 size, .mp (some h), .int .i64 next] .exact
/-- A transaction: over the state S, with what pages say, and what was changed. -/
structure TnAt (L : Nat) (H : Heap) (c : Nat) (A : TnA) (r : RoomT) (size : Int) (S : Sta) (tx : List Bytes) (l : List ChT) : Prop where
  cc : H[c]? = some (tnC (some (A.s.c, 0)) A.sl r size A.h (512 + (tx.length : Int)))
  ss : StAt H A.s S
  ll : Grown H 7 A.sl (rowsOf ctC l)
  ln : A.sl.len = l.length
  hh : MpA H A.h strW (heldL 512 tx)
  lo : L ≤ c ∧ L ≤ A.h
  sf : ∀ b, A.s.fp S b → L ≤ b ∧ b ≠ c ∧ b ≠ A.h ∧ ∀ o, A.sl.p ≠ some (b, o)
  lf : ∀ b o, A.sl.p = some (b, o) → L ≤ b ∧ b ≠ c ∧ b ≠ A.h
section
variable {L : Nat} {H G K : Heap} {c : Nat} {A : TnA} {r : RoomT} {size : Int} {S : Sta} {tx : List Bytes} {l : List ChT}
theorem TnAt.keep (t : TnAt L H c A r size S tx l) (k : Keep (fun _ => False) H G) : TnAt L G c A r size S tx l :=
  ⟨k.get t.cc fun hf => hf, t.ss.keep k fun _ _ hf => hf, t.ll.mono fun a ha => k.same _ (t.ll.lt ha) fun hf => hf, t.ln, t.hh.keep k fun hf => hf, t.lo, t.sf, t.lf⟩
theorem tn_New {a : SaA} (h : StAt H a S) (r : RoomT) (size : Int) : WP (txn_New (some (a.c, 0)) r size H) fun x => ∃ c A, x.1 = (some (c, 0), ()) ∧ TnAt H.length x.2 c A r size S [] [] ∧ Keep (fun _ => False) H x.2 := by
  obtain ⟨r1, r2, r3, r4, ⟨⟩⟩ := r
  have k1 := Keep.app (fun _ => False) H [.cells [.int .i64 r1, .int .i64 r2, .int .i64 r3, .int .i64 r4] .exact, .mp [] 0]
  have t0 : (H ++ [Blk.cells [.int .i64 r1, .int .i64 r2, .int .i64 r3, .int .i64 r4] .exact, .mp [] 0])[H.length]? = some (.cells [.int .i64 r1, .int .i64 r2, .int .i64 r3, .int .i64 r4] .exact) := by rw [tl_get0]; rfl
  have t1 : (H ++ [Blk.cells [.int .i64 r1, .int .i64 r2, .int .i64 r3, .int .i64 r4] .exact, .mp [] 0])[H.length + 1]? = some (.mp [] 0) := by rw [tl_get1]; rfl
  have e1 : H ++ [Blk.cells [.int .i64 r1, .int .i64 r2, .int .i64 r3, .int .i64 r4] .exact] ++ [.mp [] 0] = H ++ [Blk.cells [.int .i64 r1, .int .i64 r2, .int .i64 r3, .int .i64 r4] .exact, .mp [] 0] := by simp
  have l1 : (H ++ [Blk.cells [.int .i64 r1, .int .i64 r2, .int .i64 r3, .int .i64 r4] .exact]).length = H.length + 1 := by simp
  have l2 : (H ++ [Blk.cells [.int .i64 r1, .int .i64 r2, .int .i64 r3, .int .i64 r4] .exact, .mp [] 0]).length = H.length + 2 := by simp
  have hr0 : rd (H ++ [Blk.cells [.int .i64 r1, .int .i64 r2, .int .i64 r3, .int .i64 r4] .exact]) (.agg [.int .i64, .int .i64, .int .i64, .int .i64]) H.length 0 = (some (r1, r2, r3, r4, ()) : Option RoomT) :=
    rd_agg_of (cs := [.int .i64 r1, .int .i64 r2, .int .i64 r3, .int .i64 r4]) (bk := .exact) (by rw [tl_get0]; rfl) (by simp) rfl
  unfold txn_New
  refine wp_to hr0 ?_
  simp only
  rw [e1, l1]
  generalize H ++ [Blk.cells [.int .i64 r1, .int .i64 r2, .int .i64 r3, .int .i64 r4] .exact, .mp [] 0] = H1 at k1 t0 t1 l2 ⊢
  obtain ⟨G, a', c1, c2, c3, c4⟩ := st_copy (h.keep k1 fun _ _ hf => hf)
  have k2 := Keep.app (fun _ => False) G [tnC (some (a'.c, 0)) ⟨none, 0, 0⟩ (r1, r2, r3, r4, ()) size (H.length + 1) 512]
  have g0 := (c3.trans k2).get t0 fun hf => hf
  have g1 := (c3.trans k2).get t1 fun hf => hf
  have hGl := c3.len
  have hr1 : rd (G ++ [tnC (some (a'.c, 0)) ⟨none, 0, 0⟩ (r1, r2, r3, r4, ()) size (H.length + 1) 512]) (.agg [.int .i64, .int .i64, .int .i64, .int .i64]) H.length 0 = (some (r1, r2, r3, r4, ()) : Option RoomT) := rd_agg_of g0 (by simp) rfl
  refine wp_to c1 (wp_to hr1 (wp_ite rfl (wp_ite g1 (wp_some ⟨G.length, ⟨a', ⟨none, 0, 0⟩, H.length + 1⟩, rfl, ?_, (k1.trans c3).trans k2⟩))))
  refine ⟨by rw [tl_get0]; rfl, c2.keep k2 fun _ _ hf => hf, Grown.ni _ 7, rfl, ⟨0, g1⟩, ⟨by omega, by simp⟩, fun b hb => ?_, fun b o hp => (by cases hp)⟩
  have h1 := c4 b hb
  have h2 := c2.lt hb
  exact ⟨by omega, by omega, by show b ≠ H.length + 1; omega, fun o hp => by cases hp⟩
theorem tn_sealed (t : TnAt L H c A r size S tx l) (id : Int) : WP (txn_Txn_sealed (some (c, 0)) id H) fun x => x.1.1 = mayS S id ∧ Keep (fun _ => False) H x.2 := by
  obtain ⟨G, g1, g2⟩ := st_space t.ss id
  unfold txn_Txn_sealed
  refine wp_to (v := (c, 0)) rfl (wp_to (rdP_of t.cc (n := some (A.s.c, 0)) rfl) (wp_to g1 (wp_tmp4 ?_)))
  have k2 := Keep.app (fun _ => False) G [.cells [.int .i64 (spI S id).1, .int .i64 (spI S id).2.1, .int .i64 (spI S id).2.2.1, .bool (spI S id).2.2.2.1] .exact]
  cases hx : afind S.sp id with
  | none =>
    refine wp_t rfl (wp_some ⟨?_, g2.trans k2⟩)
    unfold mayS
    rw [hx]
  | some y =>
    have hsp := spI_at S hx
    have t0 : (G ++ [Blk.cells [.int .i64 (spI S id).1, .int .i64 (spI S id).2.1, .int .i64 (spI S id).2.2.1, .bool (spI S id).2.2.2.1] .exact])[G.length]? = some (.cells [.int .i64 (spI S id).1, .int .i64 (spI S id).2.1, .int .i64 (spI S id).2.2.1, .bool (spI S id).2.2.2.1] .exact) := by rw [tl_get0]; rfl
    have hb : (spI S id).2.2.2.1 = y.2 := by rw [hsp]
    refine wp_f rfl (wp_to (rdB_of t0 (n := (spI S id).2.2.2.1) rfl) ?_)
    rw [hb] at k2 ⊢
    refine wp_c (fun e => wp_some ⟨?_, g2.trans k2⟩) (fun e => wp_some ⟨?_, g2.trans k2⟩)
    · unfold mayS; rw [hx]; simp only [if_pos (show y.2 = true from e)]
    · unfold mayS; rw [hx]; simp only [if_neg (show ¬ y.2 = true by rw [e]; decide)]
theorem tn_Get (t : TnAt L H c A r size S tx l) (id p : Int) : txn_Txn_Get (some (c, 0)) id p H = some (((afind (heldL 512 tx) ((afind (pgs S.lv id) p).getD 0)).getD [], (afind (pgs S.lv id) p).getD 0, (afind (pgs S.lv id) p).isSome, ()), H) := by
  have hg : mget H (.one .str) (.one (.str [])) (some A.h) ((afind (pgs S.lv id) p).getD 0) = some ((afind (heldL 512 tx) ((afind (pgs S.lv id) p).getD 0)).getD [], (afind (heldL 512 tx) ((afind (pgs S.lv id) p).getD 0)).isSome) := by
    refine t.hh.get _ _ _ ?_
    cases afind (heldL 512 tx) ((afind (pgs S.lv id) p).getD 0) <;> rfl
  unfold txn_Txn_Get
  show (rdP H c 0).bind _ = _
  rw [rdP_of t.cc (n := some (A.s.c, 0)) rfl]
  refine (bind_to (st_get t.ss id p)).trans ?_
  show (rdM H c (0 + 7)).bind _ = _
  rw [rdM_of t.cc (n := some A.h) rfl]
  exact (bind_to hg).trans rfl
theorem tn_Spaces (t : TnAt L H c A r size S tx l) : WP (txn_Txn_Spaces (some (c, 0)) H) fun x => ∃ s, x.1 = (s, ()) ∧ Row x.2 4 s (rowsOf ctI (infos S)) ∧ s.len = S.sp.length ∧ Keep (fun _ => False) H x.2 := by
  obtain ⟨s, G, g1, g2, g3⟩ := st_spaces t.ss
  unfold txn_Txn_Spaces
  exact wp_f rfl (wp_to (v := (c, 0)) rfl (wp_to (rdP_of t.cc (n := some (A.s.c, 0)) rfl) (wp_to g1 (wp_some ⟨s, rfl, Row.grown g2.g, g3, g2.calm rfl⟩))))
theorem tn_Changes (t : TnAt L H c A r size S tx l) (hl : l.length ≤ 1000) : WP (txn_Txn_Changes (some (c, 0)) H) fun x => ∃ s, x.1 = (s, ()) ∧ Row x.2 7 s (rowsOf ctC l) ∧ s.len = l.length ∧ Keep (fun _ => False) H x.2 := by
  unfold txn_Txn_Changes
  refine wp_f rfl (wp_to (v := (c, 0)) rfl (wp_to (rdSl_of t.cc (n := A.sl) rfl) ?_))
  unfold slices_Clone_api_Change_api_Change
  have hlen : (rowsOf ctC l).length = A.sl.len * 7 := t.ll.len
  cases hp : A.sl.p with
  | none =>
    have h0 := t.ll.nil hp
    have hl0 : l = [] := by
      have := t.ln
      exact List.length_eq_zero_iff.1 (by omega)
    subst hl0
    exact wp_bind (wp_t rfl (wp_some (wp_some ⟨⟨none, 0, 0⟩, rfl, ⟨rfl, fun _ => rfl⟩, rfl, Keep.refl _ _⟩)))
  | some a =>
    have k1 := Keep.app (fun _ => False) H [.cells [] .exact]
    have b1 : (H ++ [Blk.cells [] .exact])[H.length]? = some (.cells [] .exact) := by rw [tl_get0]; rfl
    have hg : Grown (H ++ [Blk.cells [] .exact]) 7 A.sl (rowsOf ctC l) := t.ll.mono fun a ha => k1.same _ (t.ll.lt ha) fun hf => hf
    have h0 : Grown (H ++ [Blk.cells [] .exact]) 7 ⟨some (H.length, 0), 0, 0⟩ [] := ⟨rfl, rfl, fun hh => (by cases hh), fun a ha => by cases ha; exact ⟨rfl, .inr b1⟩⟩
    refine wp_bind (wp_f rfl (wp_to hg.row ?_))
    have kH : ∀ {K : Heap}, Keep (fun b => ∃ o, (⟨some (H.length, 0), 0, 0⟩ : Sl).p = some (b, o)) (H ++ [Blk.cells [] .exact]) K → Keep (fun _ => False) H K := fun k => ⟨by have := k.len; simp only [List.length_append] at this; omega, fun b hb _ => by
      rw [k.same b (by simp only [List.length_append]; omega) fun ⟨o, ho⟩ => by cases ho; omega]
      exact List.getElem?_append_left hb⟩
    cases hn : A.sl.len with
    | zero =>
      have hl0 : l = [] := by
        have := t.ln
        exact List.length_eq_zero_iff.1 (by omega)
      subst hl0
      exact wp_to (v := (⟨some (H.length, 0), 0, 0⟩, H ++ [Blk.cells [] .exact])) rfl (wp_some (wp_some ⟨_, rfl, Row.grown h0, rfl, k1⟩))
    | succ n =>
      have hln := t.ln
      obtain ⟨e1, e2⟩ := h0.app (bytes := 64) (by decide) (n := n + 1) (new := rowsOf ctC l) (by omega) (by rw [hlen, hn]) (by simp only; omega) (by simp only; omega)
      rw [List.nil_append] at e1 e2
      exact wp_to e1 (wp_some (wp_some ⟨_, rfl, Row.grown e2, by simp; omega, kH (grownH_keep _ _ _)⟩))
end
end Ev

namespace Ev
open Go (IntKind)

section
variable {L : Nat} {H G K : Heap} {c : Nat} {A : TnA} {r : RoomT} {size : Int} {S S' : Sta} {tx : List Bytes} {l : List ChT}
/-- What the change has come to, once the copy is changed. -/
def TakeQ (L : Nat) (G : Heap) (c : Nat) (A : TnA) (a' : SaA) (r : RoomT) (size : Int) (S S' : Sta) (tx : List Bytes) (l : List ChT) (ch : ChT) (y : (Int × Unit) × Heap) : Prop :=
  if fitS S' r = true then y.1.1 = 0 ∧ Keep (fun b => b = c ∨ ∃ o, A.sl.p = some (b, o)) G y.2 ∧ ∃ A', A'.h = A.h ∧ A'.s = a' ∧ (∀ b o, A'.sl.p = some (b, o) → G.length ≤ b) ∧ TnAt L y.2 c A' r size S' tx (l ++ [ch])
  else y.1.1 = 172 ∧ Keep (fun _ => False) G y.2
theorem tn_tail (t : TnAt L G c A r size S tx l) {a' : SaA} (hs : StAt G a' S') (hf : ∀ b, a'.fp S' b → L ≤ b ∧ b ≠ c ∧ b ≠ A.h ∧ ∀ o, A.sl.p ≠ some (b, o)) {H0 : Heap} {B : Nat} (hB : H0.length = B) {ch : ChT} (hb : G[B]? = some (.cells [.int .i64 ch.1, .int .i64 ch.2.1, .int .i64 ch.2.2.1, .int .i64 ch.2.2.2.1, .int .i64 ch.2.2.2.2.1, .int .i64 ch.2.2.2.2.2.1, .str ch.2.2.2.2.2.2.1] .exact)) (h8 : l.length < 8) :
    WP (((some (c, 0) : Ptr)).bind fun (a8 : Nat × Nat) =>
 (rdI .i64 G a8.1 (a8.2 + 2)).bind fun (v9 : Int) =>
 (state_State_Live (some (a'.c, 0)) G).bind fun (r10 : ((Int × Unit) × Heap)) =>
 cond (decide (v9 < r10.1.1)) (
 (rdI .i64 r10.2 a8.1 (a8.2 + 2)).bind fun (v11 : Int) =>
 if V.w (.one (.int .i64 v11)) = V.w (.one (.int .i64 v9)) then
 some ((172, ()), r10.2)
 else none) (
 ((some (c, 0) : Ptr)).bind fun (a12 : Nat × Nat) =>
 (rdI .i64 r10.2 a12.1 (a12.2 + 3)).bind fun (v13 : Int) =>
 (rdI .i64 r10.2 a8.1 (a8.2 + 2)).bind fun (v14 : Int) =>
 if V.w (.one (.int .i64 v14)) = V.w (.one (.int .i64 v9)) then
 (state_State_Keys (some (a'.c, 0)) r10.2).bind fun (r15 : ((Int × Unit) × Heap)) =>
 (rdI .i64 r15.2 a12.1 (a12.2 + 3)).bind fun (v16 : Int) =>
 if V.w (.one (.int .i64 v16)) = V.w (.one (.int .i64 v13)) then
 cond (decide (v13 < r15.1.1)) (
 some ((172, ()), r15.2)) (
 ((some (c, 0) : Ptr)).bind fun (a17 : Nat × Nat) =>
 (rdSl 7 r15.2 a17.1 (a17.2 + 1)).bind fun (v18 : Sl) =>
 Option.bind (α := ChT) (rd r15.2 (.agg [.int .i64, .int .i64, .int .i64, .int .i64, .int .i64, .int .i64, .str]) H0.length 0) fun (v19 : ChT) =>
 let H20 : Heap := r15.2 ++ [Blk.cells [.int .i64 v19.1, .int .i64 v19.2.1, .int .i64 v19.2.2.1, .int .i64 v19.2.2.2.1, .int .i64 v19.2.2.2.2.1, .int .i64 v19.2.2.2.2.2.1, .str v19.2.2.2.2.2.2.1] .exact]
 (slRow H20 7 (⟨some (r15.2.length, 0), 1, 1⟩)).bind fun (cs21 : (List C)) =>
 (appS H20 7 64 v18 1 cs21).bind fun (p22 : (Sl × Heap)) =>
 ((some (c, 0) : Ptr)).bind fun (a23 : Nat × Nat) =>
 (wr p22.2 a23.1 a23.2 [.ptr (some (a'.c, 0))]).bind fun (H24 : Heap) =>
 ((some (c, 0) : Ptr)).bind fun (a25 : Nat × Nat) =>
 (wr H24 a25.1 (a25.2 + 1) [.sl 7 p22.1]).bind fun (H26 : Heap) =>
 some ((0, ()), H26))
 else none
 else none)) (TakeQ L G c A a' r size S S' tx l ch) := by
  obtain ⟨G2, g1, k2⟩ := st_keys hs
  have t2 := t.keep k2
  have hs2 := hs.keep k2 fun _ _ hf => hf
  have hb2 := k2.get hb fun hf => hf
  unfold TakeQ fitS
  refine wp_to (v := (c, 0)) rfl (wp_to (rdI_of t.cc (n := r.1) rfl) (wp_to (st_live hs) (wp_if (p := r.1 < ((rfOf S'.lv).length : Int)) rfl (fun e => ?_) (fun e => ?_))))
  · refine wp_to (rdI_of t.cc (n := r.1) rfl) (wp_ite rfl (wp_some ?_))
    rw [decide_eq_false (show ¬ ((rfOf S'.lv).length : Int) ≤ r.1 by omega), Bool.and_false]
    simp only [Bool.false_eq_true, if_false]
    exact ⟨trivial, Keep.refl _ _⟩
  rw [decide_eq_true (show ((rfOf S'.lv).length : Int) ≤ r.1 by omega), Bool.and_true]
  refine wp_to (v := (c, 0)) rfl (wp_to (rdI_of t.cc (n := r.2.1) rfl) (wp_to (rdI_of t.cc (n := r.1) rfl) (wp_ite rfl (wp_to g1 (wp_to (rdI_of t2.cc (n := r.2.1) rfl) (wp_ite rfl (wp_if (p := r.2.1 < (S'.lv.length : Int)) rfl (fun e2 => ?_) (fun e2 => ?_))))))))
  · rw [decide_eq_false (show ¬ (S'.lv.length : Int) ≤ r.2.1 by omega)]
    simp only [Bool.false_eq_true, if_false]
    exact wp_some ⟨rfl, k2⟩
  rw [decide_eq_true (show (S'.lv.length : Int) ≤ r.2.1 by omega)]
  simp only [if_true]
  have hln := t.ln
  have hcs : Tup.mk ctC ch = [.int .i64 ch.1, .int .i64 ch.2.1, .int .i64 ch.2.2.1, .int .i64 ch.2.2.2.1, .int .i64 ch.2.2.2.2.1, .int .i64 ch.2.2.2.2.2.1, .str ch.2.2.2.2.2.2.1] := rfl
  rw [hB]
  refine wp_to (v := (c, 0)) rfl (wp_to (rdSl_of t2.cc (n := A.sl) rfl) (wp_to (v := (ch : ChT)) (rd_agg_of hb2 (by simp) rfl) ?_))
  refine wp_appk (Em.start t2.ll) rfl (by decide) (by omega) fun s' G3 hE hn hk hlow => ?_
  have hcl := get_lt t2.cc
  have hoffc : ∀ o, A.sl.p ≠ some (c, o) := fun o hp => (t.lf c o hp).2.1 rfl
  have c3 : G3[c]? = some (tnC (some (A.s.c, 0)) A.sl r size A.h (512 + (tx.length : Int))) := hk _ _ t2.cc hoffc
  have hw1 : wr G3 c 0 [.ptr (some (a'.c, 0))] = some (G3.set c (tnC (some (a'.c, 0)) A.sl r size A.h (512 + (tx.length : Int)))) := by
    rw [wr1_of c3 (by decide) (by simp)]; rfl
  have c4 : (G3.set c (tnC (some (a'.c, 0)) A.sl r size A.h (512 + (tx.length : Int))))[c]? = some (tnC (some (a'.c, 0)) A.sl r size A.h (512 + (tx.length : Int))) := set_get (get_lt c3)
  have hw2 : wr (G3.set c (tnC (some (a'.c, 0)) A.sl r size A.h (512 + (tx.length : Int)))) c (0 + 1) [.sl 7 s'] = some (G3.set c (tnC (some (a'.c, 0)) s' r size A.h (512 + (tx.length : Int)))) := by
    rw [wr1_of c4 (by decide) (by simp), List.set_set]; rfl
  have kk : Keep (fun b => b = c) G3 (G3.set c (tnC (some (a'.c, 0)) s' r size A.h (512 + (tx.length : Int)))) := Keep.set _ _ _ rfl
  have kE : Keep (fun b => ∃ o, A.sl.p = some (b, o)) G2 G3 := hE.k
  have hs3 := hs2.keep kE fun b hb' ⟨o, ho⟩ => (hf b hb').2.2.2 o ho
  have hs4 := hs3.keep kk fun b hb' e => (hf b hb').2.1 e
  have hh3 := t2.hh.keep kE fun ⟨o, ho⟩ => (t.lf _ o ho).2.2 rfl
  have hcl2 := get_lt t.cc
  have hhl := t.hh.lt
  have hG2l := k2.len
  have hcne : c ≠ A.h := mp_ne' t.cc t.hh
  refine wp_to (v := (c, 0)) rfl (wp_to hw1 (wp_to (v := (c, 0)) rfl (wp_to hw2 (wp_some ⟨rfl, ?_, ⟨a', s', A.h⟩, rfl, rfl, fun b o hp => by have := hlow b o hp; omega, ?_⟩))))
  · exact ((k2.mono fun _ hf => hf.elim).trans (kE.mono fun b ho => .inr ho)).trans (kk.mono fun b e => .inl e)
  · refine ⟨set_get (get_lt c3), hs4, ?_, ?_, hh3.keep kk (Ne.symm hcne), t.lo, fun b hb' => ⟨(hf b hb').1, (hf b hb').2.1, (hf b hb').2.2.1, fun o hp => ?_⟩, fun b o hp => ?_⟩
    · have : rowsOf ctC (l ++ [ch]) = rowsOf ctC l ++ Tup.mk ctC ch := rowsOf_snoc (cts := ctC) l ch
      rw [this]
      refine hE.g.mono fun a ha => ?_
      have h1 := hlow _ _ (show s'.p = some (a.1, a.2) from ha)
      exact set_get' (by omega)
    · show s'.len = (l ++ [ch]).length
      rw [hn, t.ln, List.length_append]; rfl
    · have h1 := hlow b o hp
      have h2 := hs2.lt hb'
      omega
    · have h1 := hlow b o hp
      have h3 := t.lo
      exact ⟨by omega, by omega, by show b ≠ A.h; omega⟩
end
end Ev

namespace Ev
open Go (IntKind)

def errS (n : Nat) (res : Int × Sta) (r : RoomT) : Int := if 8 ≤ n then 171 else if ¬ res.1 = 0 then res.1 else if fitS res.2 r = true then 0 else 172
section
variable {L : Nat} {H G K : Heap} {c : Nat} {A : TnA} {r : RoomT} {size : Int} {S S' : Sta} {tx : List Bytes} {l : List ChT}
/-- What a change has come to. -/
structure StepQ (L : Nat) (H : Heap) (c : Nat) (A : TnA) (r : RoomT) (size : Int) (res : Int × Sta) (tx : List Bytes) (l : List ChT) (ch : ChT) (y : (Int × Unit) × Heap) : Prop where
  e : y.1.1 = errS l.length res r
  no : ¬ errS l.length res r = 0 → Keep (fun _ => False) H y.2
  ok : errS l.length res r = 0 → Keep (fun b => b = c ∨ ∃ o, A.sl.p = some (b, o)) H y.2 ∧ ∃ A', A'.h = A.h ∧ (∀ b o, A'.sl.p = some (b, o) → H.length ≤ b) ∧ (∀ b, A'.s.fp res.2 b → H.length ≤ b) ∧ TnAt L y.2 c A' r size res.2 tx (l ++ [ch])
theorem tn_step (t : TnAt L H c A r size S tx l) (F : Ptr → Heap → Option ((Int × Unit) × Heap)) (res : Int × Sta) (ch : ChT)
    (hF : ∀ G a', StAt G a' S → Keep (fun _ => False) H G → ∃ G' a'', F (some (a'.c, 0)) G = some ((res.1, ()), G') ∧ Res G a' S G' a'' res.2) :
    WP (let H1 : Heap := H ++ [Blk.cells [.int .i64 ch.1, .int .i64 ch.2.1, .int .i64 ch.2.2.1, .int .i64 ch.2.2.2.1, .int .i64 ch.2.2.2.2.1, .int .i64 ch.2.2.2.2.2.1, .str ch.2.2.2.2.2.2.1] .exact]
 ((some (c, 0) : Ptr)).bind fun (a2 : Nat × Nat) =>
 (rdSl 7 H1 a2.1 (a2.2 + 1)).bind fun (v3 : Sl) =>
 cond (decide (8 ≤ (v3.len : Int))) (
 some ((171, ()), H1)) (
 ((some (c, 0) : Ptr)).bind fun (a4 : Nat × Nat) =>
 (rdP H1 a4.1 a4.2).bind fun (v5 : Ptr) =>
 (state_State_Copy v5 H1).bind fun (r6 : ((Ptr × Unit) × Heap)) =>
 (F r6.1.1 r6.2).bind fun (r7 : ((Int × Unit) × Heap)) =>
 cond (!decide (r7.1.1 = 0)) (
 some ((r7.1.1, ()), r7.2)) (
 ((some (c, 0) : Ptr)).bind fun (a8 : Nat × Nat) =>
 (rdI .i64 r7.2 a8.1 (a8.2 + 2)).bind fun (v9 : Int) =>
 (state_State_Live r6.1.1 r7.2).bind fun (r10 : ((Int × Unit) × Heap)) =>
 cond (decide (v9 < r10.1.1)) (
 (rdI .i64 r10.2 a8.1 (a8.2 + 2)).bind fun (v11 : Int) =>
 if V.w (.one (.int .i64 v11)) = V.w (.one (.int .i64 v9)) then
 some ((172, ()), r10.2)
 else none) (
 ((some (c, 0) : Ptr)).bind fun (a12 : Nat × Nat) =>
 (rdI .i64 r10.2 a12.1 (a12.2 + 3)).bind fun (v13 : Int) =>
 (rdI .i64 r10.2 a8.1 (a8.2 + 2)).bind fun (v14 : Int) =>
 if V.w (.one (.int .i64 v14)) = V.w (.one (.int .i64 v9)) then
 (state_State_Keys r6.1.1 r10.2).bind fun (r15 : ((Int × Unit) × Heap)) =>
 (rdI .i64 r15.2 a12.1 (a12.2 + 3)).bind fun (v16 : Int) =>
 if V.w (.one (.int .i64 v16)) = V.w (.one (.int .i64 v13)) then
 cond (decide (v13 < r15.1.1)) (
 some ((172, ()), r15.2)) (
 ((some (c, 0) : Ptr)).bind fun (a17 : Nat × Nat) =>
 (rdSl 7 r15.2 a17.1 (a17.2 + 1)).bind fun (v18 : Sl) =>
 Option.bind (α := (Int × Int × Int × Int × Int × Int × Bytes × Unit)) (rd r15.2 (.agg [.int .i64, .int .i64, .int .i64, .int .i64, .int .i64, .int .i64, .str]) H.length 0) fun (v19 : (Int × Int × Int × Int × Int × Int × Bytes × Unit)) =>
 let H20 : Heap := r15.2 ++ [Blk.cells [.int .i64 v19.1, .int .i64 v19.2.1, .int .i64 v19.2.2.1, .int .i64 v19.2.2.2.1, .int .i64 v19.2.2.2.2.1, .int .i64 v19.2.2.2.2.2.1, .str v19.2.2.2.2.2.2.1] .exact]
 (slRow H20 7 (⟨some (r15.2.length, 0), 1, 1⟩)).bind fun (cs21 : (List C)) =>
 (appS H20 7 64 v18 1 cs21).bind fun (p22 : (Sl × Heap)) =>
 ((some (c, 0) : Ptr)).bind fun (a23 : Nat × Nat) =>
 (wr p22.2 a23.1 a23.2 [.ptr r6.1.1]).bind fun (H24 : Heap) =>
 ((some (c, 0) : Ptr)).bind fun (a25 : Nat × Nat) =>
 (wr H24 a25.1 (a25.2 + 1) [.sl 7 p22.1]).bind fun (H26 : Heap) =>
 some ((0, ()), H26))
 else none
 else none)))) (StepQ L H c A r size res tx l ch) := by
  have k1 := Keep.app (fun _ => False) H [.cells [.int .i64 ch.1, .int .i64 ch.2.1, .int .i64 ch.2.2.1, .int .i64 ch.2.2.2.1, .int .i64 ch.2.2.2.2.1, .int .i64 ch.2.2.2.2.2.1, .str ch.2.2.2.2.2.2.1] .exact]
  have hB : (H ++ [Blk.cells [.int .i64 ch.1, .int .i64 ch.2.1, .int .i64 ch.2.2.1, .int .i64 ch.2.2.2.1, .int .i64 ch.2.2.2.2.1, .int .i64 ch.2.2.2.2.2.1, .str ch.2.2.2.2.2.2.1] .exact])[H.length]? = some (.cells [.int .i64 ch.1, .int .i64 ch.2.1, .int .i64 ch.2.2.1, .int .i64 ch.2.2.2.1, .int .i64 ch.2.2.2.2.1, .int .i64 ch.2.2.2.2.2.1, .str ch.2.2.2.2.2.2.1] .exact) := by rw [tl_get0]; rfl
  have t1 := t.keep k1
  have hln := t.ln
  have hcl := get_lt t.cc
  have hhl := t.hh.lt
  refine wp_to (v := (c, 0)) rfl (wp_to (rdSl_of t1.cc (n := A.sl) rfl) (wp_if (p := 8 ≤ (A.sl.len : Int)) rfl (fun e => ?_) (fun e => ?_)))
  · have e8 : errS l.length res r = 171 := by unfold errS; rw [if_pos (show 8 ≤ l.length by omega)]
    exact wp_some ⟨e8.symm, fun _ => k1, fun h0 => absurd (e8.symm.trans h0) (by decide)⟩
  have h8 : l.length < 8 := by omega
  obtain ⟨G, a', c1, c2, c3, c4⟩ := st_copy t1.ss
  obtain ⟨G', a'', f1, f2⟩ := hF G a' c2 (k1.trans c3)
  have hH1 := k1.len
  have hnew : ∀ b, a''.fp res.2 b → H.length ≤ b := fun b hb => (f2.n b hb).elim (fun hh => by have := c4 b hh; omega) (fun hh => by have := c3.len; omega)
  have kk : Keep (fun _ => False) H G' := ⟨by have := c3.len; have := f2.k.len; omega, fun b hb _ => by
    rw [f2.k.same b (by have := c3.len; omega) fun hf => by have := c4 b hf; omega]
    exact (k1.trans c3).same b hb fun hf => hf⟩
  have kB : G'[H.length]? = some (.cells [.int .i64 ch.1, .int .i64 ch.2.1, .int .i64 ch.2.2.1, .int .i64 ch.2.2.2.1, .int .i64 ch.2.2.2.2.1, .int .i64 ch.2.2.2.2.2.1, .str ch.2.2.2.2.2.2.1] .exact) := by
    have hb2 := c3.get hB fun hf => hf
    exact f2.k.get hb2 fun hf => by have := c4 _ hf; have := get_lt hB; omega
  refine wp_to (v := (c, 0)) rfl (wp_to (rdP_of t1.cc (n := some (A.s.c, 0)) rfl) (wp_to c1 (wp_to f1 (wp_if (p := ¬ res.1 = 0) (by simp) (fun e0 => ?_) (fun e0 => ?_)))))
  · have e8 : errS l.length res r = res.1 := by unfold errS; rw [if_neg (show ¬ 8 ≤ l.length by omega), if_pos e0]
    exact wp_some ⟨e8.symm, fun _ => kk, fun h0 => absurd (e8.symm.trans h0) e0⟩
  have e0' : res.1 = 0 := Decidable.byContradiction e0
  have tk := t.keep kk
  have hL := t.lo
  have hq := tn_tail (H0 := H) (B := H.length) tk f2.s (fun b hb => ⟨by have := hnew b hb; omega, by have := hnew b hb; omega, by have := hnew b hb; omega, fun o hp => by have := hnew b hb; have := t.ll.lt hp; simp only at this; omega⟩) rfl (ch := ch) kB h8
  have hnew' := hnew
  rw [f2.c] at hq
  refine wp_mono hq fun y hy => ?_
  unfold TakeQ at hy
  by_cases ef : fitS res.2 r = true
  · have e8 : errS l.length res r = 0 := by unfold errS; rw [if_neg (show ¬ 8 ≤ l.length by omega), if_neg e0, if_pos ef]
    rw [if_pos ef] at hy
    exact ⟨hy.1.trans e8.symm, fun hn => absurd e8 hn, fun _ => ⟨(kk.mono fun _ hf => hf.elim).trans hy.2.1, by
      obtain ⟨A', a1, a0, a2, a3⟩ := hy.2.2
      exact ⟨A', a1, fun b o hp => by have := a2 b o hp; have := kk.len; omega, fun b hb => by rw [a0] at hb; exact hnew' b hb, a3⟩⟩⟩
  · have e8 : errS l.length res r = 172 := by unfold errS; rw [if_neg (show ¬ 8 ≤ l.length by omega), if_neg e0, if_neg ef]
    rw [if_neg ef] at hy
    exact ⟨hy.1.trans e8.symm, fun _ => kk.trans hy.2, fun h0 => absurd (e8.symm.trans h0) (by decide)⟩
/-- The change of a record. -/
theorem tn_stepD (t : TnAt L H c A r size S tx l) {x : RecT} (hc : chkR x = true) {e : Nat} (he : H[e]? = some (recB x)) (text : Bytes) :
    WP (txn_Txn_do_of_txn_Txn_Do_1 (some (c, 0)) (x.1, x.2.1, x.2.2.1, x.2.2.2.1, x.2.2.2.2.1, x.2.2.2.2.2.1, text, ()) (some (e, 0), ()) H) (StepQ L H c A r size (S.applyS x) tx l (x.1, x.2.1, x.2.2.1, x.2.2.2.1, x.2.2.2.2.1, x.2.2.2.2.2.1, text, ())) := by
  refine tn_step t (fun p G => txn_Txn_Do_1 p (some (e, 0)) G) (S.applyS x) (x.1, x.2.1, x.2.2.1, x.2.2.2.1, x.2.2.2.2.1, x.2.2.2.2.2.1, text, ()) fun G a' hs hk => ?_
  have he' := hk.get he fun hf => hf
  obtain ⟨G', a'', g1, g2⟩ := st_Apply hs x
  unfold Sta.doS at g1 g2
  rw [if_pos hc] at g1 g2
  refine ⟨G', a'', ?_, g2⟩
  show txn_Txn_Do_1 (some (a'.c, 0)) (some (e, 0)) G = _
  unfold txn_Txn_Do_1
  have hr : rd G (.agg [.int .i64, .int .i64, .int .i64, .int .i64, .int .i64, .int .i64]) e 0 = (some x : Option RecT) := rd_agg_of he' (by simp) rfl
  exact (bind_to hr).trans ((bind_to g1).trans rfl)
def putN (tx : List Bytes) (id p : Int) : RecT := (1, id, p, 512 + (tx.length : Int), 0, 0, ())
/-- The change that puts a page. -/
theorem tn_stepP (t : TnAt L H c A r size S tx l) {id p : Int} {ch : ChT} {e1 e2 e3 : Nat} (h1 : H[e1]? = some (.cells [.int .i64 id] .exact)) (h2 : H[e2]? = some (.cells [.int .i64 p] .exact)) (h3 : H[e3]? = some (.cells [.ptr (some (c, 0))] .exact)) :
    WP (txn_Txn_do_of_txn_Txn_Put_1 (some (c, 0)) ch (some (e1, 0), some (e2, 0), some (e3, 0), ()) H) (StepQ L H c A r size (S.applyS (putN tx id p)) tx l ch) := by
  refine tn_step t (fun q G => txn_Txn_Put_1 q (some (e1, 0)) (some (e2, 0)) (some (e3, 0)) G) (S.applyS (putN tx id p)) ch fun G a' hs hk => ?_
  have h1' := hk.get h1 fun hf => hf
  have h2' := hk.get h2 fun hf => hf
  have h3' := hk.get h3 fun hf => hf
  have hc' := hk.get t.cc fun hf => hf
  obtain ⟨G', a'', g1, g2⟩ := st_Lay hs (id := id) (p := p) (pl := 512 + (tx.length : Int)) (by omega)
  refine ⟨G', a'', ?_, g2⟩
  show txn_Txn_Put_1 (some (a'.c, 0)) (some (e1, 0)) (some (e2, 0)) (some (e3, 0)) G = _
  unfold txn_Txn_Put_1
  exact (bind_to (show (some (e1, 0) : Ptr) = some (e1, 0) from rfl)).trans ((bind_to (rdI_of h1' (n := id) rfl)).trans ((bind_to (show (some (e2, 0) : Ptr) = some (e2, 0) from rfl)).trans ((bind_to (rdI_of h2' (n := p) rfl)).trans ((bind_to (show (some (e3, 0) : Ptr) = some (e3, 0) from rfl)).trans ((bind_to (rdP_of h3' (n := some (c, 0)) rfl)).trans ((bind_to (show (some (c, 0) : Ptr) = some (c, 0) from rfl)).trans ((bind_to (rdI_of hc' (n := 512 + (tx.length : Int)) rfl)).trans ((bind_to g1).trans rfl))))))))
end
end Ev

namespace Ev
open Go (IntKind)

/-- A transaction that does what a plain one does. -/
structure TnT (L : Nat) (H : Heap) (c : Nat) (A : TnA) (r : RoomT) (size : Int) (t : Tx) (l : List ChT) : Prop where
  a : TnAt L H c A r size (mapSt phi t.p.st) t.p.tx l
  n : l.length = t.many
  few : t.p.tx.length ≤ t.many ∧ t.many ≤ 8
  ok : TxOK t
def chOf (x : RecT) (text : Bytes) : ChT := (x.1, x.2.1, x.2.2.1, x.2.2.2.1, x.2.2.2.2.1, x.2.2.2.2.2.1, text, ())
/-- What a transaction writes. -/
def TnA.fp (A : TnA) (c b : Nat) : Prop := b = c ∨ b = A.h ∨ ∃ o, A.sl.p = some (b, o)
/-- What comes of a change. -/
structure TnQ (L : Nat) (H : Heap) (c : Nat) (A : TnA) (r : RoomT) (size : Int) (t : Tx) (w : Int × Tx) (l : List ChT) (ch : ChT) (y : (Int × Unit) × Heap) : Prop where
  e : y.1.1 = w.1
  k : Keep (A.fp c) H y.2
  t : ∃ A', TnT L y.2 c A' r size w.2 (if w.1 = 0 then l ++ [ch] else l) ∧ (∀ b, A'.fp c b → A.fp c b ∨ H.length ≤ b) ∧ ∀ b, A'.s.fp (mapSt phi w.2.p.st) b → A.s.fp (mapSt phi t.p.st) b ∨ H.length ≤ b
section
variable {L : Nat} {H G K : Heap} {c : Nat} {A : TnA} {r : RoomT} {size : Int} {t t' : Tx} {l : List ChT}
theorem fit_map (h : TxOK t) : fitS (mapSt phi t.p.st) r = fitS t.p.st r := by
  unfold fitS
  show (decide (((mapV phi t.p.st.lv).length : Int) ≤ r.2.1) && decide (((rfOf (mapV phi t.p.st.lv)).length : Int) ≤ r.1)) = _
  rw [mapV_len, mapV_live (phi_inj h)]
theorem TnT.keep (h : TnT L H c A r size t l) (k : Keep (fun _ => False) H G) : TnT L G c A r size t l := ⟨h.a.keep k, h.n, h.few, h.ok⟩
theorem own_kind {x : RecT} (h : ownK x = true) : x.1 = 2 ∨ (4 ≤ x.1 ∧ x.1 ≤ 7) := by
  unfold ownK at h
  exact of_decide_eq_true h
theorem TnQ.bad {w : Int × Tx} {ch : ChT} {y : (Int × Unit) × Heap} (h : TnT L H c A r size t l) (e : y.1.1 = w.1) (k : Keep (fun _ => False) H y.2) (hw : w.2 = t) (h0 : ¬ w.1 = 0) : TnQ L H c A r size t w l ch y :=
  ⟨e, k.mono fun _ hf => hf.elim, A, by rw [if_neg h0, hw]; exact h.keep k, fun _ hb => .inl hb, fun b hb => .inl (by rw [hw] at hb; exact hb)⟩
theorem stepD_ok {x : RecT} {r : RoomT} (h : errS t.many (t.p.st.applyS x) r = 0) : ¬ 8 ≤ t.many ∧ t.stepD x r = (0, ⟨⟨(t.p.st.applyS x).2, t.p.tx⟩, t.many + 1⟩) := by
  unfold errS at h
  unfold Tx.stepD
  by_cases e8 : 8 ≤ t.many
  · rw [if_pos e8] at h; cases h
  · rw [if_neg e8] at h ⊢
    by_cases e0 : ¬ (t.p.st.applyS x).1 = 0
    · rw [if_pos e0] at h; exact absurd h e0
    · rw [if_neg e0] at h ⊢
      by_cases ef : fitS (t.p.st.applyS x).2 r = true
      · rw [if_pos ef]; exact ⟨e8, rfl⟩
      · rw [if_neg ef] at h; cases h
theorem stepD_no {x : RecT} {r : RoomT} (h : ¬ errS t.many (t.p.st.applyS x) r = 0) : t.stepD x r = (errS t.many (t.p.st.applyS x) r, t) := by
  unfold errS at h ⊢
  unfold Tx.stepD
  by_cases e8 : 8 ≤ t.many
  · rw [if_pos e8, if_pos e8]
  · rw [if_neg e8] at h
    rw [if_neg e8, if_neg e8]
    by_cases e0 : ¬ (t.p.st.applyS x).1 = 0
    · rw [if_pos e0, if_pos e0]
    · rw [if_neg e0] at h
      rw [if_neg e0, if_neg e0]
      by_cases ef : fitS (t.p.st.applyS x).2 r = true
      · rw [if_pos ef] at h; exact absurd rfl h
      · rw [if_neg ef, if_neg ef]
theorem stepP_ok {id p : Int} {text : Bytes} {r : RoomT} (h : errS t.many (t.p.st.applyS (putR t id p)) r = 0) : ¬ 8 ≤ t.many ∧ t.stepP id p text r = (0, ⟨⟨(t.p.st.applyS (putR t id p)).2, t.p.tx ++ [text]⟩, t.many + 1⟩) := by
  have := stepD_ok h
  refine ⟨this.1, ?_⟩
  have h2 := this.2
  unfold Tx.stepD at h2
  unfold Tx.stepP
  rw [if_neg this.1] at h2 ⊢
  by_cases e0 : ¬ (t.p.st.applyS (putR t id p)).1 = 0
  · rw [if_pos e0] at h2; injection h2 with h2 _; exact absurd h2 e0
  · rw [if_neg e0] at h2 ⊢
    by_cases ef : fitS (t.p.st.applyS (putR t id p)).2 r = true
    · rw [if_pos ef]
    · rw [if_neg ef] at h2; injection h2 with h2 _; cases h2
theorem stepP_no {id p : Int} {text : Bytes} {r : RoomT} (h : ¬ errS t.many (t.p.st.applyS (putR t id p)) r = 0) : t.stepP id p text r = (errS t.many (t.p.st.applyS (putR t id p)) r, t) := by
  unfold errS at h ⊢
  unfold Tx.stepP
  by_cases e8 : 8 ≤ t.many
  · rw [if_pos e8, if_pos e8]
  · rw [if_neg e8] at h
    rw [if_neg e8, if_neg e8]
    by_cases e0 : ¬ (t.p.st.applyS (putR t id p)).1 = 0
    · rw [if_pos e0, if_pos e0]
    · rw [if_neg e0] at h
      rw [if_neg e0, if_neg e0]
      by_cases ef : fitS (t.p.st.applyS (putR t id p)).2 r = true
      · rw [if_pos ef] at h; exact absurd rfl h
      · rw [if_neg ef, if_neg ef]
theorem err_map {st st' : Sta} {e : Int} {n : Nat} (h : fitS st' r = fitS st r) : errS n (e, st') r = errS n (e, st) r := by
  unfold errS
  simp only [h]
theorem tn_Do (h : TnT L H c A r size t l) (x : RecT) : WP (txn_Txn_Do (some (c, 0)) x H) (TnQ L H c A r size t (t.doS x r) l (chOf x [])) := by
  have k1 := Keep.app (fun _ => False) H [recB x]
  have b1 : (H ++ [recB x])[H.length]? = some (recB x) := by rw [tl_get0]; rfl
  have h1 := h.keep k1
  have hb0 : H ++ [Blk.cells [.int .i64 x.1, .int .i64 x.2.1, .int .i64 x.2.2.1, .int .i64 x.2.2.2.1, .int .i64 x.2.2.2.2.1, .int .i64 x.2.2.2.2.2.1] .exact] = H ++ [recB x] := rfl
  unfold txn_Txn_Do
  simp only
  rw [hb0]
  generalize H ++ [recB x] = H1 at k1 b1 h1 ⊢
  have rx : ∀ {G : Heap}, G[H.length]? = some (recB x) → rd G (.agg [.int .i64, .int .i64, .int .i64, .int .i64, .int .i64, .int .i64]) H.length 0 = (some x : Option RecT) := fun hb => rd_agg_of hb (by simp) (by obtain ⟨a, b, c, d, e, f, ⟨⟩⟩ := x; rfl)
  have hno : ∀ {K : Heap}, ¬ (ownK x = true ∧ chkR x = true) → Keep (fun _ => False) H K → TnQ L H c A r size t (t.doS x r) l (chOf x []) ((1, ()), K) := fun ho hk => by
    have hd : t.doS x r = (1, t) := by unfold Tx.doS; rw [if_neg ho]
    rw [hd]
    exact TnQ.bad h rfl hk rfl (show ¬ (1 : Int) = 0 by decide)
  refine wp_seq (fun z => z = ((ownK x, ()), H1)) ?_ ?_
  · refine wp_to (rdI_of b1 (n := x.1) rfl) (wp_if (p := x.1 = 2) rfl (fun e => wp_some ?_) (fun e => wp_to (rdI_of b1 (n := x.1) rfl) (wp_if (p := 4 ≤ x.1) rfl (fun e2 => wp_to (rdI_of b1 (n := x.1) rfl) (wp_some ?_)) (fun e2 => wp_some ?_))))
    · rw [show ownK x = true from decide_eq_true (.inl e)]
    · rw [show ownK x = decide (x.1 ≤ 7) from decide_eq_decide.2 ⟨fun hh => by omega, fun hh => .inr ⟨e2, hh⟩⟩]
    · rw [show ownK x = false from decide_eq_false fun hh => by omega]
  rintro _ rfl
  refine wp_f rfl (wp_c (fun e => ?_) (fun e => ?_))
  · have e : ¬ ownK x = true := by simpa using e
    exact wp_some (hno (fun hh => e hh.1) k1)
  have eo : ownK x = true := by simpa using e
  have hk := own_kind eo
  refine wp_to (rx b1) (wp_to (rec_check_eq x) (wp_c (fun e => ?_) (fun e => ?_)))
  · have e : ¬ chkR x = true := by simpa using e
    exact wp_some (hno (fun hh => e hh.2) k1)
  have ec : chkR x = true := by simpa using e
  have hd : t.doS x r = if x.1 = 2 ∧ mayS t.p.st x.2.1 ≠ 0 then (mayS t.p.st x.2.1, t) else t.stepD x r := by unfold Tx.doS; rw [if_pos ⟨eo, ec⟩]
  refine wp_seq (fun p => (p.1 = .inl () ∧ ¬ (x.1 = 2 ∧ mayS t.p.st x.2.1 ≠ 0) ∧ Keep (fun _ => False) H1 p.2) ∨ (p.1 = .inr (mayS t.p.st x.2.1, ()) ∧ (x.1 = 2 ∧ mayS t.p.st x.2.1 ≠ 0) ∧ Keep (fun _ => False) H1 p.2)) ?_ ?_
  · refine wp_to (rdI_of b1 (n := x.1) rfl) (wp_if (p := x.1 = 2) rfl (fun e => ?_) (fun e => ?_))
    · refine wp_to (rdI_of b1 (n := x.2.1) rfl) (wp_seq _ (tn_sealed h1.a x.2.1) ?_)
      rintro ⟨⟨ee, ⟨⟩⟩, G2⟩ ⟨he, hk2⟩
      have he : ee = mayS t.p.st x.2.1 := he
      subst he
      have hk2 : Keep (fun _ => False) H1 G2 := hk2
      refine wp_if (p := ¬ mayS t.p.st x.2.1 = 0) (by simp) (fun e0 => ?_) (fun e0 => ?_)
      · exact wp_some (.inr ⟨rfl, ⟨e, e0⟩, hk2⟩)
      · exact wp_some (.inl ⟨rfl, fun hh => e0 hh.2, hk2⟩)
    · exact wp_some (.inl ⟨rfl, fun hh => e hh.1, Keep.refl _ _⟩)
  rintro ⟨p, G2⟩ (⟨hp, hn, hk2⟩ | ⟨hp, hy, hk2⟩)
  · have hp : p = .inl () := hp
    have hk2 : Keep (fun _ => False) H1 G2 := hk2
    subst hp
    rw [if_neg hn] at hd
    have h2 := h1.keep hk2
    have b2 := hk2.get b1 fun hf => hf
    have kk : Keep (fun _ => False) H G2 := k1.trans hk2
    refine wp_to (rx b2) (wp_seq _ (tn_stepD h2.a ec b2 []) ?_)
    rintro ⟨⟨e, ⟨⟩⟩, G3⟩ q
    have q : StepQ L G2 c A r size ((mapSt phi t.p.st).applyS x) t.p.tx l (chOf x []) ((e, ()), G3) := q
    obtain ⟨q1, q2, q3⟩ := q
    rw [mapSt_apply h.ok.w hk, h.n] at q1 q2 q3
    have q1 : e = _ := q1
    refine wp_some ?_
    show TnQ L H c A r size t (t.doS x r) l (chOf x []) ((e, ()), G3)
    have ok' := h.ok.step ec hk (t.many + 1)
    have hm : errS t.many ((t.p.st.applyS x).1, mapSt phi (t.p.st.applyS x).2) r = errS t.many (t.p.st.applyS x) r := err_map (fit_map ok')
    rw [hm] at q1 q2 q3
    by_cases e0 : errS t.many (t.p.st.applyS x) r = 0
    · obtain ⟨n8, hs⟩ := stepD_ok e0
      obtain ⟨kq, A', hA, hA2, hA3, tq⟩ := q3 e0
      rw [hd, hs]
      refine ⟨q1.trans e0, (kk.mono fun _ hf => hf.elim).trans (kq.mono fun b hb => hb.elim .inl fun hb => .inr (.inr hb)), A', ?_, fun b hb => ?_, fun b hb => .inr (by have := hA3 b hb; have := kk.len; omega)⟩
      · rw [if_pos rfl]
        exact ⟨tq, by rw [List.length_append, h.n]; rfl, ⟨by have := h.few; show t.p.tx.length ≤ t.many + 1; omega, by show t.many + 1 ≤ 8; omega⟩, ok'⟩
      · rcases hb with hb | hb | ⟨o, hb⟩
        · exact .inl (.inl hb)
        · exact .inl (.inr (.inl (hb.trans hA)))
        · have := hA2 b o hb
          have := kk.len
          exact .inr (by omega)
    · have hs := stepD_no e0
      rw [hd, hs]
      exact TnQ.bad h q1 (kk.trans (q2 e0)) rfl e0
  · have hp : p = .inr (mayS t.p.st x.2.1, ()) := hp
    have hk2 : Keep (fun _ => False) H1 G2 := hk2
    subst hp
    rw [if_pos hy] at hd
    rw [hd]
    exact wp_some (TnQ.bad h rfl (k1.trans hk2) rfl hy.2)
end
end Ev

namespace Ev
open Go (IntKind)

section
variable {L : Nat} {H G K : Heap} {c : Nat} {A : TnA} {r : RoomT} {size : Int} {t t' : Tx} {l : List ChT}
theorem put_map (h : TxOK t) (id p : Int) : (mapSt phi t.p.st).applyS (putN t.p.tx id p) = ((t.p.st.applyS (putR t id p)).1, mapSt phi (t.p.st.applyS (putR t id p)).2) := by
  have := mapSt_put (g := phi) h.w id p (1000 + (t.p.tx.length : Int))
  rw [show phi (1000 + (t.p.tx.length : Int)) = 512 + (t.p.tx.length : Int) by unfold phi; rw [if_neg (by omega)]; omega] at this
  exact this
theorem tn_Put (h : TnT L H c A r size t l) (id p : Int) (text : Bytes) : WP (txn_Txn_Put (some (c, 0)) id p text H) (TnQ L H c A r size t (t.putS id p text r size) l (chOf (1, id, p, 0, 0, 0, ()) text)) := by
  have k1 := Keep.app (fun _ => False) H [.cells [.ptr (some (c, 0))] .exact, .cells [.int .i64 id] .exact, .cells [.int .i64 p] .exact]
  have k2 := Keep.app (fun _ => False) H [.cells [.ptr (some (c, 0))] .exact, .cells [.int .i64 id] .exact, .cells [.int .i64 p] .exact, recB (1, id, p, 0, 0, 0, ())]
  have b1 : (H ++ [Blk.cells [.ptr (some (c, 0))] .exact, .cells [.int .i64 id] .exact, .cells [.int .i64 p] .exact])[H.length + 1]? = some (.cells [.int .i64 id] .exact) := by rw [tl_get1]; rfl
  have b2 : (H ++ [Blk.cells [.ptr (some (c, 0))] .exact, .cells [.int .i64 id] .exact, .cells [.int .i64 p] .exact])[H.length + 2]? = some (.cells [.int .i64 p] .exact) := by rw [tl_get1]; rfl
  have d0 : (H ++ [Blk.cells [.ptr (some (c, 0))] .exact, .cells [.int .i64 id] .exact, .cells [.int .i64 p] .exact, recB (1, id, p, 0, 0, 0, ())])[H.length]? = some (.cells [.ptr (some (c, 0))] .exact) := by rw [tl_get0]; rfl
  have d1 : (H ++ [Blk.cells [.ptr (some (c, 0))] .exact, .cells [.int .i64 id] .exact, .cells [.int .i64 p] .exact, recB (1, id, p, 0, 0, 0, ())])[H.length + 1]? = some (.cells [.int .i64 id] .exact) := by rw [tl_get1]; rfl
  have d2 : (H ++ [Blk.cells [.ptr (some (c, 0))] .exact, .cells [.int .i64 id] .exact, .cells [.int .i64 p] .exact, recB (1, id, p, 0, 0, 0, ())])[H.length + 2]? = some (.cells [.int .i64 p] .exact) := by rw [tl_get1]; rfl
  have d3 : (H ++ [Blk.cells [.ptr (some (c, 0))] .exact, .cells [.int .i64 id] .exact, .cells [.int .i64 p] .exact, recB (1, id, p, 0, 0, 0, ())])[H.length + 3]? = some (recB (1, id, p, 0, 0, 0, ())) := by rw [tl_get1]; rfl
  have z3 : (H ++ [Blk.cells [.ptr (some (c, 0))] .exact, .cells [.int .i64 id] .exact, .cells [.int .i64 p] .exact, .cells [.int .i64 0, .int .i64 0, .int .i64 0, .int .i64 0, .int .i64 0, .int .i64 0] .exact])[H.length + 3]? = some (.cells [.int .i64 0, .int .i64 0, .int .i64 0, .int .i64 0, .int .i64 0, .int .i64 0] .exact) := by rw [tl_get1]; rfl
  have hw : wr (H ++ [Blk.cells [.ptr (some (c, 0))] .exact, .cells [.int .i64 id] .exact, .cells [.int .i64 p] .exact, .cells [.int .i64 0, .int .i64 0, .int .i64 0, .int .i64 0, .int .i64 0, .int .i64 0] .exact]) (H.length + 3) 0 [.int .i64 1, .int .i64 id, .int .i64 p, .int .i64 0, .int .i64 0, .int .i64 0] = some (H ++ [Blk.cells [.ptr (some (c, 0))] .exact, .cells [.int .i64 id] .exact, .cells [.int .i64 p] .exact, recB (1, id, p, 0, 0, 0, ())]) := by
    rw [wr_of z3 (by decide) (by simp), List.set_append]
    rw [if_neg (by omega), show H.length + 3 - H.length = 3 by omega]; rfl
  unfold txn_Txn_Put
  simp only [List.append_assoc, List.cons_append, List.nil_append, List.length_append, List.length_cons, List.length_nil, Nat.zero_add]
  refine wp_to (rdI_of b1 (n := id) rfl) (wp_to (rdI_of b2 (n := p) rfl) (wp_to hw ?_))
  have h1 := h.keep k2
  generalize H ++ [Blk.cells [.ptr (some (c, 0))] .exact, .cells [.int .i64 id] .exact, .cells [.int .i64 p] .exact, recB (1, id, p, 0, 0, 0, ())] = H1 at k2 d0 d1 d2 d3 h1 ⊢
  refine wp_to (rdP_of d0 (n := some (c, 0)) rfl) (wp_f rfl (wp_to (rdP_of d0 (n := some (c, 0)) rfl) (wp_to (v := (c, 0)) rfl (wp_to (rdI_of h1.a.cc (n := size) rfl) (wp_if (p := size < (text.length : Int)) rfl (fun e => ?_) (fun e => ?_))))))
  · have hd : t.putS id p text r size = (173, t) := by unfold Tx.putS; rw [if_pos e]
    rw [hd]
    exact wp_some (TnQ.bad h rfl k2 rfl (show ¬ (173 : Int) = 0 by decide))
  have hd : t.putS id p text r size = if mayS t.p.st id ≠ 0 then (mayS t.p.st id, t) else t.stepP id p text r := by unfold Tx.putS; rw [if_neg e]
  refine wp_to (rdP_of d0 (n := some (c, 0)) rfl) (wp_to (rdI_of d1 (n := id) rfl) (wp_seq _ (tn_sealed h1.a id) ?_))
  rintro ⟨⟨ee, ⟨⟩⟩, G2⟩ ⟨he, hk2⟩
  have he : ee = mayS t.p.st id := he
  subst he
  have hk2 : Keep (fun _ => False) H1 G2 := hk2
  have kk : Keep (fun _ => False) H G2 := k2.trans hk2
  refine wp_if (p := ¬ mayS t.p.st id = 0) (by simp) (fun e0 => ?_) (fun e0 => ?_)
  · rw [if_pos e0] at hd
    rw [hd]
    exact wp_some (TnQ.bad h rfl kk rfl e0)
  rw [if_neg e0] at hd
  have h2 := h1.keep hk2
  have f0 := hk2.get d0 fun hf => hf
  have f1 := hk2.get d1 fun hf => hf
  have f2 := hk2.get d2 fun hf => hf
  have f3 := hk2.get d3 fun hf => hf
  have rx : rd G2 (.agg [.int .i64, .int .i64, .int .i64, .int .i64, .int .i64, .int .i64]) (H.length + 3) 0 = (some (1, id, p, 0, 0, 0, ()) : Option RecT) := rd_agg_of f3 (by simp) rfl
  refine wp_to (rdP_of f0 (n := some (c, 0)) rfl) (wp_to rx (wp_seq _ (tn_stepP h2.a (ch := chOf (1, id, p, 0, 0, 0, ()) text) f1 f2 f0) ?_))
  rintro ⟨⟨ee, ⟨⟩⟩, G3⟩ ⟨q1, q2, q3⟩
  rw [put_map h.ok, h.n] at q1 q2 q3
  have q1 : ee = _ := q1
  have ok' := h.ok.put id p text (t.many + 1)
  have hm : errS t.many ((t.p.st.applyS (putR t id p)).1, mapSt phi (t.p.st.applyS (putR t id p)).2) r = errS t.many (t.p.st.applyS (putR t id p)) r := err_map (fit_map ok')
  rw [hm] at q1 q2 q3
  by_cases e1 : errS t.many (t.p.st.applyS (putR t id p)) r = 0
  · obtain ⟨n8, hs⟩ := stepP_ok (text := text) e1
    obtain ⟨kq, A', hA, hA2, hA3, tq⟩ := q3 e1
    have kq : Keep (fun b => b = c ∨ ∃ o, A.sl.p = some (b, o)) G2 G3 := kq
    have hA2 : ∀ b o, A'.sl.p = some (b, o) → G2.length ≤ b := hA2
    have hA3 : ∀ b, A'.s.fp (mapSt phi (t.p.st.applyS (putR t id p)).2) b → G2.length ≤ b := hA3
    have tq : TnAt L G3 c A' r size (mapSt phi (t.p.st.applyS (putR t id p)).2) t.p.tx (l ++ [chOf (1, id, p, 0, 0, 0, ()) text]) := tq
    have htx := h.few
    have hin : L ≤ H.length := by have := get_lt h.a.cc; have := h.a.lo; omega
    have g0 : G3[H.length]? = some (.cells [.ptr (some (c, 0))] .exact) := by
      refine kq.get f0 fun hf => ?_
      rcases hf with e | ⟨o, hp⟩
      · have := get_lt h.a.cc; omega
      · have := h.a.ll.lt hp; simp only at this; omega
    obtain ⟨G4, m1, m2, m3⟩ := tq.hh.set (512 + (t.p.tx.length : Int)) text
    rw [heldL_ins] at m2
    have c3 := tq.cc
    have hcA := mp_ne' tq.cc tq.hh
    have c4 := m3.get c3 fun e => hcA e
    have g04 : G4[H.length]? = some (.cells [.ptr (some (c, 0))] .exact) := m3.get g0 fun e => by have := h.a.hh.lt; rw [hA] at e; omega
    have hw5 : wr G4 c (0 + 8) [.int .i64 (IntKind.wrap .i64 (512 + (t.p.tx.length : Int) + 1))] = some (G4.set c (tnC (some (A'.s.c, 0)) A'.sl r size A'.h (512 + ((t.p.tx ++ [text]).length : Int)))) := by
      rw [wr1_of c4 (by decide) (by simp), wrap_i64 (by omega) (by omega), show (512 + ((t.p.tx ++ [text]).length : Int)) = 512 + (t.p.tx.length : Int) + 1 by rw [List.length_append, List.length_singleton]; omega]; rfl
    have k5 : Keep (fun b => b = c) G4 (G4.set c (tnC (some (A'.s.c, 0)) A'.sl r size A'.h (512 + ((t.p.tx ++ [text]).length : Int)))) := Keep.set _ _ _ rfl
    refine wp_t (decide_eq_true (q1.trans e1)) (wp_to (rdP_of g0 (n := some (c, 0)) rfl) (wp_to (v := (c, 0)) rfl (wp_to (rdM_of c3 (n := some A'.h) rfl) (wp_to (rdP_of g0 (n := some (c, 0)) rfl) (wp_to (v := (c, 0)) rfl (wp_to (rdI_of c3 (n := 512 + (t.p.tx.length : Int)) rfl) (wp_to m1 (wp_to (rdP_of g04 (n := some (c, 0)) rfl) (wp_to (v := (c, 0)) rfl (wp_to (rdI_of c4 (n := 512 + (t.p.tx.length : Int)) rfl) (wp_to (v := (c, 0)) rfl (wp_to hw5 (wp_some ?_)))))))))))))
    rw [hd, hs]
    refine ⟨q1.trans e1, (((kk.mono fun _ hf => hf.elim).trans (kq.mono fun b hb => hb.elim .inl fun hb => .inr (.inr hb))).trans (m3.mono fun b e => .inr (.inl (Eq.trans e hA)))).trans (k5.mono fun b e => .inl e), A', ?_, fun b hb => ?_, fun b hb => .inr (by have := hA3 b hb; have := kk.len; omega)⟩
    rotate_left
    · rcases hb with hb | hb | ⟨o, hb⟩
      · exact .inl (.inl hb)
      · exact .inl (.inr (.inl (hb.trans hA)))
      · have := hA2 b o hb
        have := kk.len
        exact .inr (by omega)
    rw [if_pos rfl]
    refine ⟨⟨set_get (get_lt c4), (tq.ss.keep m3 fun b hb e => (tq.sf b hb).2.2.1 e).keep k5 fun b hb e => (tq.sf b hb).2.1 e, ?_, tq.ln, m2.keep k5 fun e => hcA e.symm, tq.lo, tq.sf, tq.lf⟩, by rw [List.length_append, h.n]; rfl, ⟨by show (t.p.tx ++ [text]).length ≤ t.many + 1; rw [List.length_append, List.length_singleton]; omega, by show t.many + 1 ≤ 8; omega⟩, ok'⟩
    refine tq.ll.mono fun a ha => ?_
    have hla := tq.lf a.1 a.2 ha
    have hlt := tq.ll.lt ha
    rw [k5.same _ (by have := m3.len; omega) hla.2.1]
    exact m3.same _ hlt hla.2.2
  · have hs := stepP_no (text := text) e1
    refine wp_f (decide_eq_false fun hh => e1 (q1.symm.trans hh)) (wp_some ?_)
    rw [hd, hs]
    exact TnQ.bad h q1 (kk.trans (q2 e1)) rfl e1
end
end Ev

namespace Ev
open Go (IntKind)

def tx0 : Tx := ⟨⟨⟨[], [], [], []⟩, []⟩, 0⟩
theorem SaW.none : SaW ⟨[], [], [], []⟩ := ⟨Asc.nil, Asc.nil, Asc.nil, Asc.nil, fun x hx => absurd hx List.not_mem_nil, fun x hx => absurd hx List.not_mem_nil, fun x hx => absurd hx List.not_mem_nil, fun x hx => absurd hx List.not_mem_nil⟩
theorem TnAt.begin {L : Nat} {H : Heap} {c : Nat} {A : TnA} {r : RoomT} {size : Int} {st : Sta} (h : TnAt L H c A r size st [] []) (w : SaW st) (hat : ∀ x ∈ st.lv, 0 ≤ x.2 ∧ x.2 ≤ 511) : TnT L H c A r size ⟨⟨st, []⟩, 0⟩ [] := by
  have e : mapSt phi st = st := by
    have : mapV phi st.lv = st.lv := by
      unfold mapV
      refine (List.map_congr_left fun x hx => ?_).trans (List.map_id _)
      have := hat x hx
      unfold phi
      rw [if_pos (by omega)]; rfl
    unfold mapSt
    rw [this]
  exact ⟨by show TnAt L H c A r size (mapSt phi st) [] []; rw [e]; exact h, rfl, ⟨Nat.le_refl _, Nat.zero_le _⟩, ⟨w, fun x hx => .inl (hat x hx)⟩⟩
theorem TnT.len {L : Nat} {H : Heap} {c : Nat} {A : TnA} {r : RoomT} {size : Int} {t : Tx} {l : List ChT} (h : TnT L H c A r size t l) : l.length ≤ 1000 := by have := h.n; have := h.few; omega
def aw1 : Tx := (tx0.doS (4, 1, 0, 0, 0, 4, ()) (3, 6, 0, 0, ())).2
def aw2 : Tx := (aw1.putS 1 2 [116, 101, 120, 116] (3, 6, 0, 0, ()) 64).2
theorem awake17 : law17_awake = some (true, ()) := by
  have key : WP (law17_awake.on []) fun x => x.1 = true := by
    unfold law17_awake.on
    obtain ⟨a, n1, n2, n3, _⟩ := new_st []
    rw [← n2] at n1
    refine wp_to n1 (wp_seq _ (tn_New n3 (3, 6, 0, 0, ()) 64) ?_)
    rintro ⟨z, G⟩ ⟨c, A, rfl, hT, _⟩
    have hT0 : TnT _ G c A (3, 6, 0, 0, ()) 64 tx0 [] := TnAt.begin hT SaW.none fun x hx => absurd hx List.not_mem_nil
    refine wp_seq _ (tn_Do hT0 (4, 1, 0, 0, 0, 4, ())) ?_
    rintro ⟨⟨e1, ⟨⟩⟩, G1⟩ ⟨q1, _, A1, hT1, _⟩
    have q1 : e1 = 0 := q1
    subst q1
    have hT1 : TnT _ G1 c A1 (3, 6, 0, 0, ()) 64 aw1 [chOf (4, 1, 0, 0, 0, 4, ()) []] := hT1
    refine wp_seq _ (tn_Put hT1 1 2 [116, 101, 120, 116]) ?_
    rintro ⟨⟨e2, ⟨⟩⟩, G2⟩ ⟨q2, _, A2, hT2, _⟩
    have q2 : e2 = 0 := q2
    subst q2
    have hT2 : TnT _ G2 c A2 (3, 6, 0, 0, ()) 64 aw2 [chOf (4, 1, 0, 0, 0, 4, ()) [], chOf (1, 1, 2, 0, 0, 0, ()) [116, 101, 120, 116]] := hT2
    refine wp_to (tn_Get hT2.a 1 2) (wp_t rfl (wp_t rfl (wp_t rfl (wp_t (decide_eq_true rfl) (wp_t rfl (wp_seq _ (tn_Changes hT2.a hT2.len) ?_))))))
    rintro ⟨z, G3⟩ ⟨s, rfl, _, l3, k3⟩
    have l3 : s.len = 2 := l3
    have k3 : Keep (fun _ => False) G2 G3 := k3
    refine wp_t (by simp [l3]) (wp_seq _ (tn_Spaces (hT2.keep k3).a) ?_)
    rintro ⟨z, G4⟩ ⟨s', rfl, _, l4, k4⟩
    have l4 : s'.len = 1 := l4
    exact wp_some (by simp [l4])
  obtain ⟨⟨b, ⟨⟩⟩, e1, e2⟩ := key
  have e2 : b = true := e2
  subst e2
  exact e1
end Ev

namespace Ev
open Go (IntKind)

section
variable {L : Nat} {H G K : Heap} {c : Nat} {A : TnA} {r : RoomT} {size : Int} {t : Tx} {l : List ChT} {w : P6}
/-- Both stand there. -/
structure Bt (L : Nat) (H : Heap) (c : Nat) (A : TnA) (r : RoomT) (size : Int) (t : Tx) (l : List ChT) (w : P6) (G : Heap) : Prop where
  k : Keep (fun _ => False) H G
  m : TnT L G c A r size t l
  p : P6At G w t
  b : G[H.length]? = some (.cells (v6C w) .exact)
theorem Bt.keep (h : Bt L H c A r size t l w G) (k : Keep (fun _ => False) G K) : Bt L H c A r size t l w K := ⟨h.k.trans k, h.m.keep k, h.p.keep k fun _ _ hf => hf, k.get h.b fun hf => hf⟩
theorem seen17_spaces (hb : Bt L H c A r size t l w K) {s : Sl} (hs : Row K 4 s (rowsOf ctI (infos t.p.st))) (hsl : s.len = t.p.st.sp.length) {G0 : Heap} :
    WP (loopW (law17_seen.s1 H ((s, ()), G0)) (0, ()) K) fun x => x.1 = .inl () ∧ Keep (fun _ => False) K x.2 := by
  have hq : ∀ {G}, Keep (fun _ => False) K G → P6At G w t := fun k => (hb.keep k).p
  have hv : ∀ {G}, Keep (fun _ => False) K G → G[H.length]? = some (.cells (v6C w) .exact) := fun k => (hb.keep k).b
  have hw0 := hb.m.ok.w
  generalize hst : t.p.st = st at hs hsl hw0
  have hq : ∀ {G}, Keep (fun _ => False) K G → RfAt G (p4 (p5 w)) st := fun k => by rw [← hst]; exact (hq k).p.r
  have hfew := hw0.few
  refine wp_rise st.sp.length (fun i (y : Int × Unit) G => y = ((i : Int), ()) ∧ Keep (fun _ => False) K G) (fun (x : Unit ⊕ (Bool × Unit)) G => x = .inl () ∧ Keep (fun _ => False) K G) ?_ ?_ ⟨rfl, Keep.refl _ _⟩
  · rintro i y G hi ⟨rfl, k⟩
    have hp := hq k
    have hlm : (st.sp.map rsp).length = st.sp.length := List.length_map _
    have hx : (st.sp.map rsp)[i]'(by omega) = rsp st.sp[i] := List.getElem_map _
    obtain ⟨b0, o0, r1, r2, _⟩ := Row.rd (cts := ctP) (rows := st.sp.map rsp) hp.sp (i := i) (by omega) (by decide)
    rw [hx] at r2
    have hf : afind st.sp st.sp[i].1 = some st.sp[i].2 := hw0.sp.find (List.getElem_mem hi)
    have hil : (infos st).length = st.sp.length := List.length_map _
    have hr : (infos st)[i]'(by omega) = (st.sp[i].1, st.sp[i].2.1, ((pgs st.lv st.sp[i].1).length : Int), st.sp[i].2.2, ()) :=
      (List.getElem_map (fun x : Int × Int × Bool => (spI st x.1 : Tup ctI)) (l := st.sp)).trans (spI_at st hf)
    have hrw : ∀ {G' : Heap}, Keep (fun _ => False) G G' → ∃ b1 o1, Sl.at 4 s (i : Int) = some (b1, o1) ∧ rd G' (.agg [.int .i64, .int .i64, .int .i64, .bool]) b1 o1 = (some (st.sp[i].1, st.sp[i].2.1, ((pgs st.lv st.sp[i].1).length : Int), st.sp[i].2.2, ()) : Option (Int × Int × Int × Bool × Unit)) := fun k' => by
      obtain ⟨b1, o1, e1, e2, _⟩ := Row.rd (cts := ctI) (rows := infos st) (hs.keep (k.trans k') fun _ _ _ hf => hf) (i := i) (by omega) (by decide)
      rw [hr] at e2
      exact ⟨b1, o1, e1, e2⟩
    obtain ⟨b1, o1, e1, _⟩ := hrw (Keep.refl _ _)
    have hrw : ∀ {G' : Heap}, Keep (fun _ => False) G G' → rd G' (.agg [.int .i64, .int .i64, .int .i64, .bool]) b1 o1 = (some (st.sp[i].1, st.sp[i].2.1, ((pgs st.lv st.sp[i].1).length : Int), st.sp[i].2.2, ()) : Option (Int × Int × Int × Bool × Unit)) := fun k' => by
      obtain ⟨b2, o2, e2, e3⟩ := hrw k'
      rw [e1] at e2
      cases e2
      exact e3
    generalize st.sp[i] = y at r2 hf hrw
    obtain ⟨id, qq, b⟩ := y
    have r2 : rd G (.agg [.int .i64, .int .i64, .bool]) b0 o0 = (some (id, qq, b, ()) : Option (Int × Int × Bool × Unit)) := r2
    have k1 := Keep.app (fun _ => False) G [.cells [.int .i64 id, .int .i64 qq, .bool b] .exact]
    have c1 : (G ++ [Blk.cells [.int .i64 id, .int .i64 qq, .bool b] .exact])[G.length]? = some (.cells [.int .i64 id, .int .i64 qq, .bool b] .exact) := by rw [tl_get0]; rfl
    have p1 := rf_pages (hq (k.trans k1)) id
    have k2 := Keep.app (fun _ => False) (G ++ [Blk.cells [.int .i64 id, .int .i64 qq, .bool b] .exact]) [.cells (vC (p4 (p5 w))) .exact]
    have c2 := k2.get c1 fun hf => hf
    have hw := wrap_succ (show i < 9223372036854775807 by omega)
    unfold law17_seen.s1
    refine wp_t (decide_eq_true (by rw [hsl]; exact Int.ofNat_lt.2 hi)) (wp_to (rdSl_of (hv k) (n := w.1) rfl) (wp_to r1 (wp_to r2 (wp_tmpB (wp_to e1 (wp_to (hrw k1) ?_))))))
    refine wp_to (rdI_of c1 (n := id) rfl) (wp_to (rdI_of c1 (n := qq) rfl) (wp_to (rd64 (hv (k.trans k1))) (wp_to (rdI_of c1 (n := id) rfl) (wp_to (rdB_of c1 (n := b) rfl) (wp_to p1 (wp_to (hrw (k1.trans k2)) (wp_ite rfl ?_)))))))
    refine wp_to (rdI_of c2 (n := id) rfl) (wp_ite rfl (wp_to (rdI_of c2 (n := qq) rfl) (wp_ite rfl (wp_to (rdB_of c2 (n := b) rfl) (wp_ite rfl ?_)))))
    refine wp_f (by simp) (wp_some ⟨?_, k.trans (k1.trans k2)⟩)
    simp only [hw]
  · rintro y G ⟨rfl, k⟩
    unfold law17_seen.s1
    exact wp_f (decide_eq_false (by rw [hsl]; exact Int.lt_irrefl _)) (wp_some ⟨rfl, k⟩)
/-- What a transaction says of a page, and where it stands. -/
theorem tn_see (h : TnT L G c A r size t l) {x : Int × Int} (hx : x ∈ t.p.st.lv) : txn_Txn_Get (some (c, 0)) (x.1 / 1024) (x.1 % 1024) G = some (((if x.2 < 1000 then [] else txtP t.p x.2), phi x.2, true, ()), G) := by
  have hg := tn_Get h.a (x.1 / 1024) (x.1 % 1024)
  have hf : afind (pgs t.p.st.lv (x.1 / 1024)) (x.1 % 1024) = some x.2 := by
    rw [pgs_find h.ok.w.lv, if_pos (by omega), show x.1 / 1024 * 1024 + x.1 % 1024 = x.1 by omega]
    exact h.ok.w.lv.find hx
  have hf2 : afind (pgs (mapSt phi t.p.st).lv (x.1 / 1024)) (x.1 % 1024) = some (phi x.2) := by
    show afind (pgs (mapV phi t.p.st.lv) (x.1 / 1024)) (x.1 % 1024) = _
    rw [mapV_pgs, mapV_find, hf]; rfl
  rw [hf2] at hg
  have hat := h.ok.at_ x hx
  have ht : (afind (heldL 512 t.p.tx) (phi x.2)).getD [] = if x.2 < 1000 then [] else txtP t.p x.2 := by
    rw [heldL_find]
    unfold phi txtP
    by_cases e : x.2 < 1000
    · rw [if_pos e, if_pos e, if_neg (by omega)]; rfl
    · rw [if_neg e, if_neg e, if_pos (by omega), show (x.2 - 488 - 512).toNat = (x.2 - 1000).toNat by omega]
  rw [hg]
  show some (((afind (heldL 512 t.p.tx) (phi x.2)).getD [], phi x.2, true, ()), G) = _
  rw [ht]
theorem seen17_leaves (hb : Bt L H c A r size t l w K) : WP (loopW (law17_seen.s2 (some (c, 0)) H) (0, ()) K) fun x => x.1 = .inl () ∧ Keep (fun _ => False) K x.2 := by
  have hw0 := hb.m.ok.w
  have hmany := hw0.many
  have hfl := hb.m.few
  have hl2 : w.2.1.len = t.p.st.lv.length := hb.p.p.r.lvl
  refine wp_rise t.p.st.lv.length (fun i (y : Int × Unit) G => y = ((i : Int), ()) ∧ Keep (fun _ => False) K G) (fun (x : Unit ⊕ (Bool × Unit)) G => x = .inl () ∧ Keep (fun _ => False) K G) ?_ ?_ ⟨rfl, Keep.refl _ _⟩
  · rintro i y G hi ⟨rfl, k⟩
    have hp := (hb.keep k).p.p.r
    have hlm : (t.p.st.lv.map rlv).length = t.p.st.lv.length := List.length_map _
    have hx : (t.p.st.lv.map rlv)[i]'(by omega) = rlv t.p.st.lv[i] := List.getElem_map _
    obtain ⟨b0, o0, r1, r2, _⟩ := Row.rd (cts := ctL) (rows := t.p.st.lv.map rlv) hp.lv (i := i) (by omega) (by decide)
    rw [hx] at r2
    have hf : afind (pgs t.p.st.lv (t.p.st.lv[i].1 / 1024)) (t.p.st.lv[i].1 % 1024) = some t.p.st.lv[i].2 := by
      rw [pgs_find hw0.lv, if_pos (by omega), show t.p.st.lv[i].1 / 1024 * 1024 + t.p.st.lv[i].1 % 1024 = t.p.st.lv[i].1 by omega]
      exact hw0.lv.find (List.getElem_mem hi)
    have hat := hb.m.ok.at_ _ (List.getElem_mem hi)
    have hsee : ∀ {G}, Keep (fun _ => False) K G → _ := fun {G} k => tn_see (hb.keep (K := G) k).m (List.getElem_mem hi)
    generalize t.p.st.lv[i] = y at r2 hf hat hsee
    have r2 : rd G (.agg [.int .i64, .int .i64, .int .i64]) b0 o0 = (some (y.1 / 1024, y.1 % 1024, y.2, ()) : Option (Int × Int × Int × Unit)) := r2
    have k1 := Keep.app (fun _ => False) G [.cells [.int .i64 (y.1 / 1024), .int .i64 (y.1 % 1024), .int .i64 y.2] .exact]
    have c1 : (G ++ [Blk.cells [.int .i64 (y.1 / 1024), .int .i64 (y.1 % 1024), .int .i64 y.2] .exact])[G.length]? = some (.cells [.int .i64 (y.1 / 1024), .int .i64 (y.1 % 1024), .int .i64 y.2] .exact) := by rw [tl_get0]; rfl
    have hw := wrap_succ (show i < 9223372036854775807 by omega)
    have h1 := hb.keep (k.trans k1)
    unfold law17_seen.s2
    refine wp_to (rdSl_of (hb.keep k).b (n := w.2.1) rfl) (wp_t (decide_eq_true (by rw [hl2]; exact Int.ofNat_lt.2 hi)) (wp_to (rdSl_of (hb.keep k).b (n := w.2.1) rfl) (wp_to r1 (wp_to r2 (wp_tmp ?_)))))
    refine wp_to (rdI_of c1 (n := y.1 / 1024) rfl) (wp_to (rdI_of c1 (n := y.1 % 1024) rfl) (wp_to (hsee (k.trans k1)) (wp_to (rd65 h1.b) (wp_to (rdI_of c1 (n := y.1 / 1024) rfl) (wp_to (rdI_of c1 (n := y.1 % 1024) rfl) (wp_seq _ (pl_get h1.p.p (fun x hx => by have := h1.m.ok.at_ x hx; omega) (by omega) _ _) ?_))))))
    rintro ⟨z, G2⟩ ⟨k2, hz⟩
    have k2 : Keep (fun _ => False) (G ++ [Blk.cells [.int .i64 (y.1 / 1024), .int .i64 (y.1 % 1024), .int .i64 y.2] .exact]) G2 := k2
    rw [hf] at hz
    have c2 := k2.get c1 fun hf => hf
    refine wp_f rfl ?_
    by_cases e : y.2 < 1000
    · simp only [if_pos e] at hz
      subst hz
      have hphi : phi y.2 = y.2 := by unfold phi; rw [if_pos e]
      rw [if_pos e, hphi]
      refine wp_f (by simp; omega) (wp_f (by simp) (wp_t rfl (wp_to (rdI_of c2 (n := y.2) rfl) (wp_f (by simp) (wp_some ⟨?_, (k.trans k1).trans k2⟩)))))
      simp only [hw]
    · simp only [if_neg e] at hz
      subst hz
      have hphi : phi y.2 = y.2 - 488 := by unfold phi; rw [if_neg e]
      rw [if_neg e, hphi]
      refine wp_f (by simp; omega) (wp_f (by simp) (wp_f rfl (wp_some ⟨?_, (k.trans k1).trans k2⟩)))
      simp only [hw]
  · rintro y G ⟨rfl, k⟩
    unfold law17_seen.s2
    exact wp_to (rdSl_of (hb.keep k).b (n := w.2.1) rfl) (wp_f (decide_eq_false (by rw [hl2]; exact Int.lt_irrefl _)) (wp_some ⟨rfl, k⟩))
theorem law17_seen_eq (hm : TnT L H c A r size t l) (hp : P6At H w t) : WP (law17_seen (some (c, 0)) w H) fun x => x.1.1 = true ∧ Keep (fun _ => False) H x.2 := by
  have k0 := Keep.app (fun _ => False) H [.cells (v6C w) .exact]
  have t0 : Bt L H c A r size t l w (H ++ [.cells (v6C w) .exact]) := ⟨k0, hm.keep k0, hp.keep k0 fun _ _ hf => hf, by rw [tl_get0]; rfl⟩
  unfold law17_seen
  refine wp_seq _ (tn_Spaces t0.m.a) ?_
  rintro ⟨⟨s1, ⟨⟩⟩, G1⟩ ⟨s', hs, h1, h2, k1⟩
  cases hs
  have k1 : Keep (fun _ => False) _ G1 := k1
  have h1 : Row G1 4 s1 (rowsOf ctI (infos (mapSt phi t.p.st))) := h1
  rw [mapSt_infos] at h1
  have h2 : s1.len = t.p.st.sp.length := h2
  have t1 := t0.keep k1
  have l1 : w.1.len = t.p.st.sp.length := hp.p.r.spl
  refine wp_to (rdSl_of t1.b (n := w.1) rfl) (wp_f (by simp [h2, l1]) ?_)
  refine wp_seq _ (seen17_spaces t1 h1 h2) ?_
  rintro ⟨x, G3⟩ ⟨rfl, k3⟩
  have k3 : Keep (fun _ => False) G1 G3 := k3
  have t3 := t1.keep k3
  refine wp_seq _ (seen17_leaves t3) ?_
  rintro ⟨x, G4⟩ ⟨rfl, k4⟩
  have k4 : Keep (fun _ => False) G3 G4 := k4
  have t4 := t3.keep k4
  obtain ⟨G5, g1, g2⟩ := rf_get t4.p.p.r 9 9
  refine wp_to (tn_Get t4.m.a 9 9) (wp_to (rd64 t4.b) (wp_to g1 (wp_some ⟨?_, t4.k.trans g2⟩)))
  show ((afind (pgs (mapV phi t.p.st.lv) 9) 9).isSome == (afind (pgs t.p.st.lv 9) 9).isSome) = true
  rw [mapV_pgs, mapV_find, Option.isSome_map]
  simp
end
end Ev

namespace Ev
open Go (IntKind)

theorem wp_ex17 {α : Type} {x : Option ((Bool × Unit) × α)} (h : WP x fun r => r.1.1 = true) : ∃ H', x = some ((true, ()), H') := by
  obtain ⟨⟨⟨b, ⟨⟩⟩, G⟩, e1, e2⟩ := h
  have e2 : b = true := e2
  subst e2
  exact ⟨G, e1⟩
def chB (x : ChT) : Blk := .cells [.int .i64 x.1, .int .i64 x.2.1, .int .i64 x.2.2.1, .int .i64 x.2.2.2.1, .int .i64 x.2.2.2.2.1, .int .i64 x.2.2.2.2.2.1, .str x.2.2.2.2.2.2.1] .exact
section
variable {L : Nat} {H G K : Heap} {c : Nat} {A : TnA} {r : RoomT} {size : Int} {t : Tx} {l : List ChT} {s : Sl}
theorem TnT.fp_lt (h : TnT L G c A r size t l) {b : Nat} (hb : A.fp c b) : b < G.length := by
  rcases hb with rfl | rfl | ⟨o, hp⟩
  · exact get_lt h.a.cc
  · exact h.a.hh.lt
  · exact h.a.ll.lt hp
theorem TnT.fp_low (h : TnT L G c A r size t l) {b : Nat} (hb : A.fp c b) : L ≤ b := by
  rcases hb with rfl | rfl | ⟨o, hp⟩
  · exact h.a.lo.1
  · exact h.a.lo.2
  · exact (h.a.lf _ _ hp).1
/-- Other blocks change. -/
theorem TnT.other (h : TnT L G c A r size t l) {F : Nat → Prop} (k : Keep F G K) (h1 : ∀ b, A.fp c b → ¬ F b) (h2 : ∀ b, A.s.fp (mapSt phi t.p.st) b → ¬ F b) : TnT L K c A r size t l :=
  ⟨⟨k.get h.a.cc (h1 _ (.inl rfl)), h.a.ss.keep k h2, h.a.ll.mono fun a ha => k.same _ (h.a.ll.lt ha) (h1 _ (.inr (.inr ⟨a.2, ha⟩))), h.a.ln, h.a.hh.keep k (h1 _ (.inr (.inl rfl))), h.a.lo, h.a.sf, h.a.lf⟩, h.n, h.few, h.ok⟩
theorem row_chg {x0 : Sl} {rows : List ChT} (hr : Row G 7 x0 (rowsOf ctC rows)) {i : Nat} (hi : i < rows.length) : ∃ b o, Sl.at 7 x0 (i : Int) = some (b, o) ∧ rd G (.agg [.int .i64, .int .i64, .int .i64, .int .i64, .int .i64, .int .i64, .str]) b o = (some rows[i] : Option ChT) := by
  obtain ⟨b, o, e1, e2, _⟩ := Row.rd (cts := ctC) hr (i := i) hi (by decide)
  exact ⟨b, o, e1, e2⟩
end
end Ev

namespace Ev
open Go (IntKind)

section
variable {L T Rr : Nat} {H G G4 K : Heap} {c : Nat} {A : TnA} {r : RoomT} {t t' : Tx} {l : List ChT} {w w' : P6} {x : ChT} {res : Int × Tx}
/-- A transaction and the document's stand, each in its place. -/
structure TPl (L T Rr c : Nat) (r : RoomT) (G : Heap) (A : TnA) (t : Tx) (l : List ChT) (w : P6) : Prop where
  m : TnT L G c A r 64 t l
  p : P6At G w t
  bT : G[T]? = some (.cells (v6C w) .exact)
  bR : G[Rr]? = some (.cells [.int .i64 r.1, .int .i64 r.2.1, .int .i64 r.2.2.1, .int .i64 r.2.2.2.1] .exact)
  lo : Rr < T ∧ T < L
  o : ∀ b, blk5 (p5 w) b → b ≠ T ∧ ¬ A.fp c b
theorem TPl.keep (h : TPl L T Rr c r G A t l w) (k : Keep (fun _ => False) G K) : TPl L T Rr c r K A t l w :=
  ⟨h.m.keep k, h.p.keep k fun _ _ hf => hf, k.get h.bT fun hf => hf, k.get h.bR fun hf => hf, h.lo, h.o⟩
structure Mid (L T Rr c : Nat) (r : RoomT) (G G4 : Heap) (A : TnA) (t : Tx) (l : List ChT) (w w' : P6) (t' : Tx) (x : ChT) : Prop where
  m : TnT L G4 c A r 64 t l
  p : P6At G4 w' t'
  bW : G4[G.length + 1]? = some (.cells (v6C w') .exact)
  bX : G4[G.length]? = some (chB x)
  bT : G4[T]? = some (.cells (v6C w) .exact)
  bR : G4[Rr]? = some (.cells [.int .i64 r.1, .int .i64 r.2.1, .int .i64 r.2.2.1, .int .i64 r.2.2.2.1] .exact)
  o : ∀ b, blk5 (p5 w') b → b ≠ T ∧ b ≠ G.length + 1 ∧ ¬ A.fp c b
  oA : ∀ b, A.fp c b → b < G.length
  k : Keep (fun _ => False) G G4
theorem mid_of (h : TPl L T Rr c r G A t l w) {y : (P6 × Int × Unit) × Heap} (hy : TxQ (G ++ [chB x, .cells (v6C w) .exact]) w res y) :
    ∃ G4, wr y.2 (G.length + 1) 0 [.sl 3 y.1.1.1, .sl 3 y.1.1.2.1, .sl 1 y.1.1.2.2.1, .sl 2 y.1.1.2.2.2.1, .sl 1 y.1.1.2.2.2.2.1, .int .i64 y.1.1.2.2.2.2.2.1] = some G4 ∧ Mid L T Rr c r G G4 A t l w y.1.1 res.2 x := by
  obtain ⟨_, hr⟩ := hy
  have k1 := Keep.app (fun _ => False) G [chB x, .cells (v6C w) .exact]
  have tX : (G ++ [chB x, .cells (v6C w) .exact])[G.length]? = some (chB x) := by rw [tl_get0]; rfl
  have tW : (G ++ [chB x, .cells (v6C w) .exact])[G.length + 1]? = some (.cells (v6C w) .exact) := by rw [tl_get1]; rfl
  have l2 : (G ++ [chB x, .cells (v6C w) .exact]).length = G.length + 2 := by simp
  have kG := k1.trans hr.k
  have tW2 := hr.k.get tW fun hf => hf
  have tX2 := hr.k.get tX fun hf => hf
  have kk : Keep (fun b => b = G.length + 1) y.2 (y.2.set (G.length + 1) (.cells (v6C y.1.1) .exact)) := Keep.set _ _ _ rfl
  have hA : ∀ b, A.fp c b → b < G.length := fun b hb => h.m.fp_lt hb
  have hS : ∀ b, A.s.fp (mapSt phi t.p.st) b → b < G.length := fun b hb => h.m.a.ss.lt hb
  have hl := h.lo
  have hT := get_lt h.bT
  have hnew : ∀ b, blk5 (p5 y.1.1) b → b ≠ T ∧ b ≠ G.length + 1 ∧ ¬ A.fp c b := fun b hb => by
    rcases hr.n b hb with hh | hh
    · have := h.p.p.lt hh
      exact ⟨(h.o b hh).1, by omega, (h.o b hh).2⟩
    · exact ⟨by omega, by omega, fun hf => by have := hA b hf; omega⟩
  refine ⟨_, wr6 tW2 rfl y.1.1, (h.m.keep kG).other kk (fun b hb e => by have := hA b hb; omega) fun b hb e => by have := hS b hb; omega, hr.s.keep kk fun b hb e => (hnew b hb).2.1 e, set_get (get_lt tW2), kk.get tX2 (by omega), kk.get (kG.get h.bT fun hf => hf) (by omega), kk.get (kG.get h.bR fun hf => hf) (by omega), hnew, hA, ⟨by have := kG.len; simp only [List.length_set]; omega, fun b hb _ => ?_⟩⟩
  rw [set_get' (by omega)]
  exact kG.same b hb fun hf => hf
/-- What a change, done to both, comes to. -/
structure PlQ (L T Rr c : Nat) (r : RoomT) (G : Heap) (w : P6) (res : Int × Tx) (l : List ChT) (z : (Int × Int × Unit) × Heap) : Prop where
  e : z.1 = (res.1, res.1, ())
  k : Keep (fun b => L ≤ b) G z.2
  bT : z.2[T]? = some (.cells (v6C w) .exact)
  bR : z.2[Rr]? = some (.cells [.int .i64 r.1, .int .i64 r.2.1, .int .i64 r.2.2.1, .int .i64 r.2.2.2.1] .exact)
  s : ∃ A' l' w', TnT L z.2 c A' r 64 res.2 l' ∧ (l'.length = if res.1 = 0 then l.length + 1 else l.length) ∧ P6At z.2 w' res.2 ∧ z.2[G.length + 1]? = some (.cells (v6C w') .exact) ∧ ∀ b, blk5 (p5 w') b → b ≠ T ∧ ¬ A'.fp c b
theorem step_of (hl : Rr < T ∧ T < L) (h : Mid L T Rr c r G G4 A t l w w' res.2 x) {ch : ChT} {y : (Int × Unit) × Heap} (hq : TnQ L G4 c A r 64 t res l ch y) {e : Int} (he : e = res.1) : PlQ L T Rr c r G w res l ((e, y.1.1, ()), y.2) := by
  obtain ⟨q1, qk, A', hT, hn1, hn2⟩ := hq
  have hlow : ∀ b, A.fp c b → L ≤ b := fun b hb => h.m.fp_low hb
  refine ⟨by rw [he, q1], (h.k.mono fun _ hf => hf.elim).trans (qk.mono fun b hb => hlow b hb), qk.get h.bT fun hf => by have := hlow _ hf; omega, qk.get h.bR fun hf => by have := hlow _ hf; omega, A', _, w', hT, by split <;> simp, h.p.keep qk fun b hb hf => (h.o b hb).2.2 hf, qk.get h.bW fun hf => by have := h.oA _ hf; omega, fun b hb => ⟨(h.o b hb).1, fun hf => ?_⟩⟩
  rcases hn1 b hf with hh | hh
  · exact (h.o b hb).2.2 hh
  · have := h.p.p.lt hb
    omega
def chR (x : ChT) : RecT := (x.1, x.2.1, x.2.2.1, x.2.2.2.1, x.2.2.2.2.1, x.2.2.2.2.2.1, ())
def resS (t : Tx) (x : ChT) (r : RoomT) : Int × Tx := if x.1 = 1 then t.putS x.2.1 x.2.2.1 x.2.2.2.2.2.2.1 r 64 else t.doS (chR x) r
theorem plays17_round (h : TPl L T Rr c r G A t l w) {x1 : Sl} {rows : List ChT} (hr : Row G 7 x1 (rowsOf ctC rows)) (hlen : x1.len = rows.length) {i : Nat} (hi : i < rows.length) (h30 : i < 30) {p14 : Unit × Heap} (hR : p14.2.length = Rr) {H16 : Heap} (hT : H16.length = T) {G0 : Heap} :
    WP (law17_TxnPlays.s2 x1 p14 H16 ((some (c, 0), ()), G0) ((t.many : Int), (i : Int), ()) G) (fun z => ∃ t' A' l' w', z.1 = .inl ((t'.many : Int), ((i + 1 : Nat) : Int), ()) ∧ TPl L T Rr c r z.2 A' t' l' w' ∧ Keep (fun b => T ≤ b) G z.2) := by
  obtain ⟨b1, o1, e1, e2⟩ := row_chg hr hi
  have hw0 : wr (G ++ [Blk.cells [.int .i64 0, .int .i64 0, .int .i64 0, .int .i64 0, .int .i64 0, .int .i64 0, .str []] .exact]) G.length 0 [.int .i64 rows[i].1, .int .i64 rows[i].2.1, .int .i64 rows[i].2.2.1, .int .i64 rows[i].2.2.2.1, .int .i64 rows[i].2.2.2.2.1, .int .i64 rows[i].2.2.2.2.2.1, .str rows[i].2.2.2.2.2.2.1] = some (G ++ [chB rows[i]]) := by
    rw [wr_t0, wr_c0 _ _ _ _ (by simp)]; rfl
  generalize rows[i] = x at e2 hw0
  have hl := h.lo
  have hmany := h.m.few
  have hn := h.m.n
  have hw := wrap_succ (show i < 9223372036854775807 by omega)
  have k1 := Keep.app (fun _ => False) G [chB x]
  have k2 := Keep.app (fun _ => False) G [chB x, .cells (v6C w) .exact]
  have hX : (G ++ [chB x, .cells (v6C w) .exact])[G.length]? = some (chB x) := by rw [tl_get0]; rfl
  have h2 := h.keep k2
  have hWl : (G ++ [chB x]).length = G.length + 1 := by simp
  have hw1 : wr (G ++ [chB x] ++ [Blk.cells [.sl 3 Sl.nil, .sl 3 Sl.nil, .sl 1 Sl.nil, .sl 2 Sl.nil, .sl 1 Sl.nil, .int .i64 0] .exact]) (G ++ [chB x]).length 0 [.sl 3 w.1, .sl 3 w.2.1, .sl 1 w.2.2.1, .sl 2 w.2.2.2.1, .sl 1 w.2.2.2.2.1, .int .i64 w.2.2.2.2.2.1] = some (G ++ [chB x, .cells (v6C w) .exact]) := by
    rw [wr_t0, wr_c0 _ _ _ _ (by simp)]
    show some (G ++ [chB x] ++ [Blk.cells (v6C w) .exact]) = _
    rw [List.append_assoc]; rfl
  have hb1 := (h.keep k1).bT
  unfold law17_TxnPlays.s2
  rw [hR, hT]
  refine wp_t (decide_eq_true (by rw [hlen]; exact Int.ofNat_lt.2 hi)) (wp_t (decide_eq_true (by simp only; omega)) (wp_to e1 (wp_to e2 (wp_to hw0 (wp_to (rd6 hb1) (wp_to hw1 ?_))))))
  rw [hWl]
  refine wp_seq (PlQ L T Rr c r G w (resS t x r) l) ?_ ?_
  · have rR : rd (G ++ [chB x, .cells (v6C w) .exact]) (.agg [.int .i64, .int .i64, .int .i64, .int .i64]) Rr 0 = (some r : Option RoomT) := rd_agg_of h2.bR (by simp) (by obtain ⟨r1, r2, r3, r4, ⟨⟩⟩ := r; rfl)
    refine wp_to (rdI_of hX (n := x.1) rfl) (wp_if (p := x.1 = 1) rfl (fun e => ?_) (fun e => ?_))
    · have hs : resS t x r = t.putS x.2.1 x.2.2.1 x.2.2.2.2.2.2.1 r 64 := if_pos e
      rw [hs]
      refine wp_to (rd6 h2.bT) (wp_to (rdI_of hX (n := x.2.1) rfl) (wp_to (rdI_of hX (n := x.2.2.1) rfl) (wp_to (rdS_of hX (n := x.2.2.2.2.2.2.1) rfl) (wp_to rR (wp_seq _ (tx_put h2.p x.2.1 x.2.2.1 x.2.2.2.2.2.2.1 r 64 (by omega)) ?_)))))
      intro y hy
      obtain ⟨G4, w4, hm⟩ := mid_of h hy
      refine wp_to w4 (wp_to (rdI_of hm.bX (n := x.2.1) rfl) (wp_to (rdI_of hm.bX (n := x.2.2.1) rfl) (wp_to (rdS_of hm.bX (n := x.2.2.2.2.2.2.1) rfl) (wp_seq _ (tn_Put hm.m x.2.1 x.2.2.1 x.2.2.2.2.2.2.1) ?_))))
      intro y2 hy2
      exact wp_some (step_of hl hm hy2 hy.1)
    · have hs : resS t x r = t.doS (chR x) r := if_neg e
      rw [hs]
      have rX : ∀ {K : Heap}, K[G.length]? = some (chB x) → rd K (.agg [.int .i64, .int .i64, .int .i64, .int .i64, .int .i64, .int .i64]) G.length 0 = (some (chR x) : Option RecT) := fun hb => rd_agg_of hb (by simp) rfl
      refine wp_to (rd6 h2.bT) (wp_to (rX hX) (wp_to rR (wp_seq _ (tx_do h2.p (chR x) r) ?_)))
      intro y hy
      obtain ⟨G4, w4, hm⟩ := mid_of h hy
      refine wp_to w4 (wp_to (rX hm.bX) (wp_seq _ (tn_Do hm.m (chR x)) ?_))
      intro y2 hy2
      exact wp_some (step_of hl hm hy2 hy.1)
  generalize resS t x r = res
  rintro ⟨⟨e, e', ⟨⟩⟩, K⟩ ⟨he, kK, bT, bR, A', l', w', hm, hll, hp, bW, ho⟩
  have he : (e, e', ()) = (res.1, res.1, ()) := he
  cases he
  have hm : TnT L K c A' r 64 res.2 l' := hm
  have hp : P6At K w' res.2 := hp
  have bT : K[T]? = some (.cells (v6C w) .exact) := bT
  have kK : Keep (fun b => L ≤ b) G K := kK
  have kk : Keep (fun b => b = T) K (K.set T (.cells (v6C w') .exact)) := Keep.set _ _ _ rfl
  have hP : TPl L T Rr c r (K.set T (.cells (v6C w') .exact)) A' res.2 l' w' :=
    ⟨hm.other kk (fun b hb e => by have := hm.fp_low hb; omega) (fun b hb e => by have := (hm.a.sf b hb).1; omega), hp.keep kk fun b hb e => (ho b hb).1 e, set_get (get_lt bT), kk.get bR (by omega), hl, ho⟩
  have kT : Keep (fun b => T ≤ b) G (K.set T (.cells (v6C w') .exact)) := (kK.mono fun b hb => by have hb : L ≤ b := hb; omega).trans (kk.mono fun b e => by have e : b = T := e; omega)
  refine wp_to (rd6 bW) (wp_to (wr6 bT rfl w') ?_)
  have hmn := hm.n
  have hm8 := hm.few
  refine wp_seq (fun q => q = (((res.2.many : Int), ()), K.set T (.cells (v6C w') .exact))) ?_ ?_
  · refine wp_if (p := res.1 = 0) rfl (fun e => ?_) (fun e => ?_)
    · rw [if_pos e] at hll
      refine wp_some ?_
      have hd := wrap_succ (show t.many < 9223372036854775807 by omega)
      rw [show res.2.many = t.many + 1 by omega, ← hd]
    · rw [if_neg e] at hll
      refine wp_some ?_
      rw [show res.2.many = t.many by omega]
  rintro _ rfl
  refine wp_f (by simp) (wp_seq _ (tn_Changes hP.m.a hP.m.len) ?_)
  rintro ⟨z, K2⟩ ⟨s, rfl, _, hsl, k3⟩
  have k3 : Keep (fun _ => False) _ K2 := k3
  have hP2 := hP.keep k3
  refine wp_f (by simp [hsl, hmn]) (wp_to (rd6 hP2.bT) (wp_seq _ (law17_seen_eq hP2.m hP2.p) ?_))
  rintro ⟨⟨bb, ⟨⟩⟩, K3⟩ ⟨hb, k4⟩
  have hb : bb = true := hb
  subst hb
  have k4 : Keep (fun _ => False) K2 K3 := k4
  refine wp_f rfl (wp_some ⟨res.2, A', l', w', ?_, hP2.keep k4, (kT.trans (k3.mono fun _ hf => hf.elim)).trans (k4.mono fun _ hf => hf.elim)⟩)
  simp only [hw]
end
end Ev

namespace Ev
open Go (IntKind)

theorem came_keep17 {cts : List CT} {B H : Heap} {s : Sl} (h : Came cts B s H) : Keep (fun _ => False) B H := by
  rcases h with ⟨_, rfl⟩ | ⟨len, rows, _, _, _, rfl, _⟩
  · exact Keep.refl _ _
  · exact Keep.push _ _ _
abbrev st00' : Sta := ⟨[], [], [], []⟩
abbrev vNil : RfV := (⟨none, 0, 0⟩, ⟨none, 0, 0⟩, ⟨none, 0, 0⟩, ⟨none, 0, 0⟩, ())
section
variable {L B : Nat} {G G' H : Heap} {a a' : SaA} {v v' : RfV}
/-- Records are played to both. -/
theorem ahead {x0 : Sl} {rows : List RecT} {H3 : Heap} (hr : Row G 6 x0 (rowsOf ctR rows)) (hlen : x0.len = rows.length) (hlow : ∀ b o, x0.p = some (b, o) → b < L) (p : Pair L B G a v st00' st00') (hB : H3.length = B) :
    WP (loopW (law17_TxnPlays.s1 x0 ((some (a.c, 0), ()), H3)) (0, ()) G) fun z => ∃ a' v', Pair L B z.2 a' v' (playS st00' (rows.take 30)) (playS st00' (rows.take 30)) ∧ a'.c = a.c ∧ Keep (fun b => L ≤ b) G z.2 := by
  refine wp_rise (min rows.length 30) (fun i (y : Int × Unit) K => y = ((i : Int), ()) ∧ ∃ a' v', Pair L B K a' v' (playS st00' (rows.take i)) (playS st00' (rows.take i)) ∧ a'.c = a.c ∧ Keep (fun b => L ≤ b) G K)
    (fun (_ : Unit) K => ∃ a' v', Pair L B K a' v' (playS st00' (rows.take 30)) (playS st00' (rows.take 30)) ∧ a'.c = a.c ∧ Keep (fun b => L ≤ b) G K) ?_ ?_ ⟨rfl, a, v, p, rfl, Keep.refl _ _⟩
  · rintro i y K hi ⟨rfl, a1, v1, p1, c1, kG⟩
    have hrG := hr.low hlow kG
    have hir : i < rows.length := by omega
    obtain ⟨b1, o1, e1, e2⟩ := row_rec hrG hir
    obtain ⟨G2, a2, f1, f2⟩ := st_Apply p1.s rows[i]
    obtain ⟨p2, kk2⟩ := p1.state f2
    have hr2 := hrG.low hlow kk2
    have hw := wrap_succ (show i < 9223372036854775807 by omega)
    unfold law17_TxnPlays.s1
    rw [hB]
    refine wp_t (decide_eq_true (by rw [hlen]; exact Int.ofNat_lt.2 (by omega))) (wp_t (decide_eq_true (by omega)) (wp_to e1 (wp_to (e2 hrG).1 ?_)))
    rw [c1] at f1
    refine wp_to f1 (wp_to p2.rv (wp_to e1 (wp_to (e2 hr2).1 ?_)))
    refine wp_seq _ (rf_Apply p2.r _) ?_
    rintro ⟨⟨v3, e3, ⟨⟩⟩, G3⟩ ⟨he3, hr3⟩
    have hr3 : RRes G2 v1 G3 v3 ((playS st00' (rows.take i)).doS rows[i]).2 := hr3
    obtain ⟨q1, q2, q3⟩ := p2.plain hr3
    refine wp_to q1 (wp_some ⟨?_, a2, v3, ?_, f2.c.trans c1, (kG.trans kk2).trans q3⟩)
    · simp only [hw]
    · rw [take_snoc (show i < rows.length by omega), playS_snoc]
      exact q2
  · rintro y K ⟨rfl, a1, v1, p1, c1, kG⟩
    unfold law17_TxnPlays.s1
    by_cases hl : rows.length ≤ 30
    · rw [Nat.min_eq_left hl] at p1 ⊢
      rw [List.take_length] at p1
      refine wp_f (decide_eq_false (by rw [hlen]; exact Int.lt_irrefl _)) (wp_some ⟨a1, v1, ?_, c1, kG⟩)
      rw [List.take_of_length_le hl]; exact p1
    · rw [Nat.min_eq_right (by omega)] at p1 ⊢
      exact wp_t (decide_eq_true (by rw [hlen]; exact Int.ofNat_lt.2 (by omega))) (wp_f rfl (wp_some ⟨a1, v1, p1, c1, kG⟩))
theorem TxnPlays_true (x0 x1 : Sl) (n : Int) {H0 H : Heap} (hc : Came ctR [] x0 H0) (hc' : Came ctC H0 x1 H) (_ : wfC (.int .i64 n)) : ∃ H', law17_TxnPlays x0 x1 n H = some ((true, ()), H') := by
  obtain ⟨rows, hr0, hlen, _, _⟩ := came_rows hc
  obtain ⟨rows2, hr2, hlen2, _, _⟩ := came_rows hc'
  have hr : Row H 6 x0 (rowsOf ctR rows) := (show Row H0 6 x0 (rowsOf ctR rows) from hr0).keep (came_keep17 hc') fun _ _ _ hf => hf
  have hr2 : Row H 7 x1 (rowsOf ctC rows2) := hr2
  have hlow : ∀ b o, x0.p = some (b, o) → b < H.length := fun b o hp => hr.lt hp
  have hlow2 : ∀ b o, x1.p = some (b, o) → b < H.length := fun b o hp => hr2.lt hp
  apply wp_ex17
  unfold law17_TxnPlays
  obtain ⟨a, n1, n2, n3, n4⟩ := new_st H
  have k1 := Keep.app (fun _ => False) H [.mp [] 0, .mp [] 0, .mp [] 0, .mp [] 0, .cells [.mp (some H.length), .mp (some (H.length + 1)), .mp (some (H.length + 2)), .mp (some (H.length + 3))] .exact]
  generalize H ++ [Blk.mp [] 0, .mp [] 0, .mp [] 0, .mp [] 0, .cells [.mp (some H.length), .mp (some (H.length + 1)), .mp (some (H.length + 2)), .mp (some (H.length + 3))] .exact] = H3 at n1 n3 k1
  rw [← n2] at n1
  have hw : wr (H3 ++ [Blk.cells [.sl 3 Sl.nil, .sl 3 Sl.nil, .sl 1 Sl.nil, .sl 2 Sl.nil] .exact]) H3.length 0 [.sl 3 (⟨none, 0, 0⟩), .sl 3 (⟨none, 0, 0⟩), .sl 1 (⟨none, 0, 0⟩), .sl 2 (⟨none, 0, 0⟩)] = some (H3 ++ [.cells (vC vNil) .exact]) := by
    rw [wr_t0, wr_c0 _ _ _ _ (by simp)]; rfl
  have k2 := Keep.app (fun _ => False) H3 [.cells (vC vNil) .exact]
  have hno : ∀ b, ¬ blkV vNil b := by
    rintro b (⟨o, hh⟩ | ⟨o, hh⟩ | ⟨o, hh⟩ | ⟨o, hh⟩) <;> cases hh
  have hl3 := k1.len
  have p0 : Pair H.length H3.length (H3 ++ [.cells (vC vNil) .exact]) a vNil st00' st00' :=
    ⟨n3.keep k2 fun _ _ hf => hf, ⟨n3.w, ⟨rfl, fun _ => rfl⟩, ⟨rfl, fun _ => rfl⟩, ⟨rfl, fun _ => rfl⟩, ⟨rfl, fun _ => rfl⟩, rfl, rfl, rfl, rfl⟩, by rw [tl_get0]; rfl, by omega,
     fun b hb => ⟨n4 b hb, by have := n3.lt hb; omega, hno b⟩, fun b hb => absurd hb (hno b)⟩
  have hr1 : Row (H3 ++ [.cells (vC vNil) .exact]) 6 x0 (rowsOf ctR rows) := hr.keep (k1.trans k2) fun _ _ _ hf => hf
  have hr21 : Row (H3 ++ [.cells (vC vNil) .exact]) 7 x1 (rowsOf ctC rows2) := hr2.keep (k1.trans k2) fun _ _ _ hf => hf
  refine wp_to n1 (wp_to hw (wp_seq _ (ahead (rows := rows) hr1 hlen hlow p0 rfl) ?_))
  rintro ⟨⟨⟩, G⟩ ⟨a', v, p, hac, kG⟩
  have p : Pair H.length H3.length G a' v (playS st00' (rows.take 30)) (playS st00' (rows.take 30)) := p
  have kG : Keep (fun b => H.length ≤ b) (H3 ++ [.cells (vC vNil) .exact]) G := kG
  have hrG : Row G 7 x1 (rowsOf ctC rows2) := hr21.low hlow2 kG
  have hX : SaX (playS st00' (List.take (α := RecT) 30 rows)) := playS_ok _ SaX.nil SaW.none
  generalize playS st00' (List.take 30 rows) = S at p hX
  simp only
  generalize IntKind.wrap .i64 (1 + (bitsI .and .i64 n 15)) = r1
  generalize IntKind.wrap .i64 (2 + (bitsI .and .i64 (IntKind.wrap .i64 (2 * n)) 31)) = r2
  have hwR : wr (G ++ [Blk.cells [.int .i64 0, .int .i64 0, .int .i64 0, .int .i64 0] .exact]) G.length 0 [.int .i64 r1, .int .i64 r2, .int .i64 0, .int .i64 0] = some (G ++ [.cells [.int .i64 r1, .int .i64 r2, .int .i64 0, .int .i64 0] .exact]) := by
    rw [wr_t0, wr_c0 _ _ _ _ (by simp)]; rfl
  have kR := Keep.app (fun _ => False) G [.cells [.int .i64 r1, .int .i64 r2, .int .i64 0, .int .i64 0] .exact]
  have tR : (G ++ [Blk.cells [.int .i64 r1, .int .i64 r2, .int .i64 0, .int .i64 0] .exact])[G.length]? = some (.cells [.int .i64 r1, .int .i64 r2, .int .i64 0, .int .i64 0] .exact) := by rw [tl_get0]; rfl
  have lR : (G ++ [Blk.cells [.int .i64 r1, .int .i64 r2, .int .i64 0, .int .i64 0] .exact]).length = G.length + 1 := by simp
  have hp16 := p.keep kR
  have rR : rd (G ++ [Blk.cells [.int .i64 r1, .int .i64 r2, .int .i64 0, .int .i64 0] .exact]) (.agg [.int .i64, .int .i64, .int .i64, .int .i64]) G.length 0 = (some (r1, r2, 0, 0, ()) : Option RoomT) := rd_agg_of tR (by simp) rfl
  refine wp_to hwR (wp_to rR (wp_to hp16.rv ?_))
  generalize hH16 : G ++ [Blk.cells [.int .i64 r1, .int .i64 r2, .int .i64 0, .int .i64 0] .exact] = H16 at kR tR lR hp16 ⊢
  have k19 := Keep.app (fun _ => False) H16 [.cells [.sl 3 Sl.nil, .sl 3 Sl.nil, .sl 1 Sl.nil, .sl 2 Sl.nil, .sl 1 Sl.nil, .int .i64 0] .exact]
  have t19 : (H16 ++ [Blk.cells [.sl 3 Sl.nil, .sl 3 Sl.nil, .sl 1 Sl.nil, .sl 2 Sl.nil, .sl 1 Sl.nil, .int .i64 0] .exact])[H16.length]? = some (.cells [.sl 3 Sl.nil, .sl 3 Sl.nil, .sl 1 Sl.nil, .sl 2 Sl.nil, .sl 1 Sl.nil, .int .i64 0] .exact) := by rw [tl_get0]; rfl
  have l19 : (H16 ++ [Blk.cells [.sl 3 Sl.nil, .sl 3 Sl.nil, .sl 1 Sl.nil, .sl 2 Sl.nil, .sl 1 Sl.nil, .int .i64 0] .exact]).length = H16.length + 1 := by simp
  have hp19 := hp16.keep k19
  have hN := tn_New hp19.s (r1, r2, 0, 0, ()) 64
  rw [hac] at hN
  refine wp_seq _ hN ?_
  rintro ⟨z, K⟩ ⟨c, A, rfl, hT, kK⟩
  have kK : Keep (fun _ => False) _ K := kK
  rw [l19] at hT
  have hT : TnAt (H16.length + 1) K c A (r1, r2, 0, 0, ()) 64 S [] [] := hT
  have hT0 : TnT (H16.length + 1) K c A (r1, r2, 0, 0, ()) 64 ⟨⟨S, []⟩, 0⟩ [] := TnAt.begin hT p.s.w fun x hx => by
    have := hX.lv x.1 x.2 (p.s.w.lv.find hx)
    exact ⟨this.1, this.2.1⟩
  have hpK := hp19.keep kK
  have tK := kK.get t19 fun hf => hf
  have kk : Keep (fun b => b = H16.length) K (K.set H16.length (.cells (v6C (v.1, v.2.1, v.2.2.1, v.2.2.2.1, ⟨none, 0, 0⟩, 0, ())) .exact)) := Keep.set _ _ _ rfl
  have hvlt : ∀ b, blkV v b → b < G.length := fun b hb => p.r.lt hb
  have halt : ∀ b, a'.fp S b → b < G.length := fun b hb => p.s.lt hb
  have hBlt := get_lt p.b
  have hrv : RfAt (K.set H16.length (.cells (v6C (v.1, v.2.1, v.2.2.1, v.2.2.2.1, ⟨none, 0, 0⟩, 0, ())) .exact)) v S := hpK.r.keep kk fun b hb e => by have := hvlt b hb; omega
  have hb5 : ∀ b, blk5 (p5 (v.1, v.2.1, v.2.2.1, v.2.2.2.1, ⟨none, 0, 0⟩, 0, ())) b → b < G.length := by
    rintro b (hb | ⟨o, hp⟩)
    · exact hvlt b hb
    · cases hp
  have h0 : TPl (H16.length + 1) H16.length G.length c (r1, r2, 0, 0, ()) (K.set H16.length (.cells (v6C (v.1, v.2.1, v.2.2.1, v.2.2.2.1, ⟨none, 0, 0⟩, 0, ())) .exact)) A ⟨⟨S, []⟩, 0⟩ [] (v.1, v.2.1, v.2.2.1, v.2.2.2.1, ⟨none, 0, 0⟩, 0, ()) :=
    ⟨hT0.other kk (fun b hb e => by have := hT0.fp_low hb; omega) (fun b hb e => by have := (hT0.a.sf b hb).1; omega), ⟨⟨hrv, ⟨rfl, fun _ => rfl⟩, rfl⟩, rfl⟩, set_get (get_lt tK), kk.get ((k19.trans kK).get tR fun hf => hf) (by omega), ⟨by omega, by omega⟩, fun b hb => ⟨by have := hb5 b hb; omega, fun hf => by have := hb5 b hb; have := hT0.fp_low hf; omega⟩⟩
  have hs22 : StAt (K.set H16.length (.cells (v6C (v.1, v.2.1, v.2.2.1, v.2.2.2.1, ⟨none, 0, 0⟩, 0, ())) .exact)) a' S := hpK.s.keep kk fun b hb e => by have := halt b hb; omega
  have hb22 := kk.get hpK.b (show ¬ H3.length = H16.length by omega)
  have hr22 : Row (K.set H16.length (.cells (v6C (v.1, v.2.1, v.2.2.1, v.2.2.2.1, ⟨none, 0, 0⟩, 0, ())) .exact)) 7 x1 (rowsOf ctC rows2) := (hrG.keep ((kR.trans k19).trans kK) fun _ _ _ hf => hf).keep kk fun b o hp e => by
    have h1 := hlow2 b o hp
    have e : b = H16.length := e
    omega
  refine wp_to hpK.rv (wp_ite rfl (wp_ite tK (wp_to (wr6 tK rfl (v.1, v.2.1, v.2.2.1, v.2.2.2.1, ⟨none, 0, 0⟩, 0, ())) (wp_to awake17 (wp_f rfl ?_)))))
  generalize K.set H16.length (.cells (v6C (v.1, v.2.1, v.2.2.1, v.2.2.2.1, ⟨none, 0, 0⟩, 0, ())) .exact) = K0 at h0 hs22 hb22 hr22 ⊢
  refine wp_seq _ (wp_rise (step := law17_TxnPlays.s2 x1 ((), G) H16 ((some (c, 0), ()), K)) (min rows2.length 30) (fun i (y : Int × Int × Unit) M => ∃ t A l w, y = ((t.many : Int), (i : Int), ()) ∧ TPl (H16.length + 1) H16.length G.length c (r1, r2, 0, 0, ()) M A t l w ∧ Keep (fun b => H16.length ≤ b) K0 M)
    (fun (x : Unit ⊕ (Bool × Unit)) M => x = .inl () ∧ Keep (fun b => H16.length ≤ b) K0 M) ?_ ?_ ⟨_, A, [], _, rfl, h0, Keep.refl _ _⟩) ?_
  · rintro i y M hi ⟨t, A', l, w, rfl, hP, kM⟩
    have hir : i < List.length (α := ChT) rows2 := by show i < rows2.length; omega
    refine wp_mono (plays17_round hP (rows := rows2) (hr22.keep kM fun b o hp hh => by have := hlow2 b o hp; have hh : H16.length ≤ b := hh; omega) hlen2 hir (by omega) rfl rfl) ?_
    rintro ⟨x, M'⟩ ⟨t', A2, l', w', z1, z2, z3⟩
    have z1 : x = _ := z1
    subst z1
    exact ⟨t', A2, l', w', rfl, z2, kM.trans z3⟩
  · rintro y M ⟨t, A', l, w, rfl, hP, kM⟩
    unfold law17_TxnPlays.s2
    by_cases hl : rows2.length ≤ 30
    · rw [Nat.min_eq_left hl]
      exact wp_f (decide_eq_false (by rw [hlen2]; exact Int.lt_irrefl _)) (wp_some ⟨rfl, kM⟩)
    · rw [Nat.min_eq_right (by omega)]
      exact wp_t (decide_eq_true (by rw [hlen2]; exact Int.ofNat_lt.2 (by omega))) (wp_f rfl (wp_some ⟨rfl, kM⟩))
  rintro ⟨x, M⟩ ⟨hx, kM⟩
  have hx : x = .inl () := hx
  subst hx
  have kM : Keep (fun b => H16.length ≤ b) K0 M := kM
  have hsM : StAt M a' S := hs22.keep kM fun b hb hh => by have := halt b hb; have hh : H16.length ≤ b := hh; omega
  have hbM := kM.get hb22 (show ¬ H16.length ≤ H3.length by omega)
  obtain ⟨M2, g1, g2⟩ := st_keys hsM
  rw [hac] at g1
  have hbM2 := g2.get hbM fun hf => hf
  have hlv : v.2.1.len = S.lv.length := p.r.lvl
  refine wp_to (rdSl_of hbM (n := v.2.1) rfl) (wp_to g1 (wp_to (rdSl_of hbM2 (n := v.2.1) rfl) (wp_ite rfl (wp_some ?_))))
  simp [hlv]
end
end Ev

