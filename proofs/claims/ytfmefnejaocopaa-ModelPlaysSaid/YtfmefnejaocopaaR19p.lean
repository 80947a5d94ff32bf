/- What the law leans on: texts of this claim, put together. -/
import Derived.Test.YtfmefnejaocopaaEvCore
import Derived.Test.YtfmefnejaocopaaEvLoop
import Derived.Test.YtfmefnejaocopaaEvOpen
import Derived.Test.YtfmefnejaocopaaGRec
import Derived.Test.YtfmefnejaocopaaGRef07
import Derived.Test.YtfmefnejaocopaaGRef08
import Derived.Test.YtfmefnejaocopaaGModel
import Derived.Test.YtfmefnejaocopaaGRef16
import Derived.Test.YtfmefnejaocopaaGLaw17
import Derived.Test.YtfmefnejaocopaaGLaw19
import Derived.Test.YtfmefnejaocopaaR19pa
import Derived.Test.YtfmefnejaocopaaR19pb
set_option linter.unusedSimpArgs false
set_option linter.unusedVariables false
namespace Ev
open Go (IntKind)

section
variable {H G K : Heap} {c : Nat} {a : MdA} {r : RoomT} {size many : Int} {now : Pln} {o : Option Tx} {v : P5} {q : Pln}
/-- Both stand there. -/
structure Bth (H : Heap) (c : Nat) (a : MdA) (r : RoomT) (size many : Int) (now : Pln) (o : Option Tx) (v : P5) (G : Heap) : Prop where
  k : Keep (fun _ => False) H G
  m : MdAt G c a r size many now o
  p : P5At G v (seeP now o)
  b : G[H.length]? = some (.cells (v5C v) .exact)
theorem Bth.keep (t : Bth H c a r size many now o v G) (k : Keep (fun _ => False) G K) : Bth H c a r size many now o v K := ⟨t.k.trans k, t.m.keep k, t.p.keep k fun _ _ hf => hf, k.get t.b fun hf => hf⟩
theorem Bth.w (t : Bth H c a r size many now o v G) : SaW (seeP now o).st := t.p.r.w
theorem same19_spaces (t : Bth H c a r size many now o v K) {s : Sl} (hs : Row K 4 s (rowsOf ctI (infos (seeP now o).st))) (hsl : s.len = (seeP now o).st.sp.length) {G0 : Heap} :
    WP (loopW (law19_same.s1 H ((s, ()), G0)) (0, ()) K) fun x => x.1 = .inl () ∧ Keep (fun _ => False) K x.2 := by
  have hq : ∀ {G}, Keep (fun _ => False) K G → P5At G v (seeP now o) := fun k => (t.keep k).p
  have hv : ∀ {G}, Keep (fun _ => False) K G → G[H.length]? = some (.cells (v5C v) .exact) := fun k => (t.keep k).b
  have hw0 := t.w
  generalize seeP now o = q at hs hsl hq hw0
  have hfew := hw0.few
  refine wp_rise q.st.sp.length (fun i (y : Int × Unit) G => y = ((i : Int), ()) ∧ Keep (fun _ => False) K G) (fun (x : Unit ⊕ (Bool × Unit)) G => x = .inl () ∧ Keep (fun _ => False) K G) ?_ ?_ ⟨rfl, Keep.refl _ _⟩
  · rintro i y G hi ⟨rfl, k⟩
    have hp := (hq k).r
    have hlm : (q.st.sp.map rsp).length = q.st.sp.length := List.length_map _
    have hx : (q.st.sp.map rsp)[i]'(by omega) = rsp q.st.sp[i] := List.getElem_map _
    obtain ⟨b0, o0, r1, r2, _⟩ := Row.rd (cts := ctP) (rows := q.st.sp.map rsp) hp.sp (i := i) (by omega) (by decide)
    rw [hx] at r2
    have hf : afind q.st.sp q.st.sp[i].1 = some q.st.sp[i].2 := hw0.sp.find (List.getElem_mem hi)
    have hil : (infos q.st).length = q.st.sp.length := List.length_map _
    have hr : (infos q.st)[i]'(by omega) = (q.st.sp[i].1, q.st.sp[i].2.1, ((pgs q.st.lv q.st.sp[i].1).length : Int), q.st.sp[i].2.2, ()) :=
      (List.getElem_map (fun x : Int × Int × Bool => (spI q.st x.1 : Tup ctI)) (l := q.st.sp)).trans (spI_at q.st hf)
    have hrw : ∀ {G' : Heap}, Keep (fun _ => False) G G' → ∃ b1 o1, Sl.at 4 s (i : Int) = some (b1, o1) ∧ rd G' (.agg [.int .i64, .int .i64, .int .i64, .bool]) b1 o1 = (some (q.st.sp[i].1, q.st.sp[i].2.1, ((pgs q.st.lv q.st.sp[i].1).length : Int), q.st.sp[i].2.2, ()) : Option (Int × Int × Int × Bool × Unit)) := fun k' => by
      obtain ⟨b1, o1, e1, e2, _⟩ := Row.rd (cts := ctI) (rows := infos q.st) (hs.keep (k.trans k') fun _ _ _ hf => hf) (i := i) (by omega) (by decide)
      rw [hr] at e2
      exact ⟨b1, o1, e1, e2⟩
    obtain ⟨b1, o1, e1, _⟩ := hrw (Keep.refl _ _)
    have hrw : ∀ {G' : Heap}, Keep (fun _ => False) G G' → rd G' (.agg [.int .i64, .int .i64, .int .i64, .bool]) b1 o1 = (some (q.st.sp[i].1, q.st.sp[i].2.1, ((pgs q.st.lv q.st.sp[i].1).length : Int), q.st.sp[i].2.2, ()) : Option (Int × Int × Int × Bool × Unit)) := fun k' => by
      obtain ⟨b2, o2, e2, e3⟩ := hrw k'
      rw [e1] at e2
      cases e2
      exact e3
    generalize q.st.sp[i] = y at r2 hf hrw
    obtain ⟨id, qq, b⟩ := y
    have r2 : rd G (.agg [.int .i64, .int .i64, .bool]) b0 o0 = (some (id, qq, b, ()) : Option (Int × Int × Bool × Unit)) := r2
    have k1 := Keep.app (fun _ => False) G [.cells [.int .i64 id, .int .i64 qq, .bool b] .exact]
    have c1 : (G ++ [Blk.cells [.int .i64 id, .int .i64 qq, .bool b] .exact])[G.length]? = some (.cells [.int .i64 id, .int .i64 qq, .bool b] .exact) := by rw [tl_get0]; rfl
    have p1 := rf_pages (hq (k.trans k1)).r id
    have k2 := Keep.app (fun _ => False) (G ++ [Blk.cells [.int .i64 id, .int .i64 qq, .bool b] .exact]) [.cells (vC (p4 v)) .exact]
    have c2 := k2.get c1 fun hf => hf
    have hw := wrap_succ (show i < 9223372036854775807 by omega)
    unfold law19_same.s1
    refine wp_t (decide_eq_true (by rw [hsl]; exact Int.ofNat_lt.2 hi)) (wp_to (rdSl_of (hv k) (n := v.1) rfl) (wp_to r1 (wp_to r2 (wp_tmpB (wp_to e1 (wp_to (hrw k1) ?_))))))
    refine wp_to (rdI_of c1 (n := id) rfl) (wp_to (rdI_of c1 (n := qq) rfl) (wp_to (rd54 (hv (k.trans k1))) (wp_to (rdI_of c1 (n := id) rfl) (wp_to (rdB_of c1 (n := b) rfl) (wp_to p1 (wp_to (hrw (k1.trans k2)) (wp_ite rfl ?_)))))))
    refine wp_to (rdI_of c2 (n := id) rfl) (wp_ite rfl (wp_to (rdI_of c2 (n := qq) rfl) (wp_ite rfl (wp_to (rdB_of c2 (n := b) rfl) (wp_ite rfl ?_)))))
    refine wp_f (by simp) (wp_some ⟨?_, k.trans (k1.trans k2)⟩)
    simp only [hw]
  · rintro y G ⟨rfl, k⟩
    unfold law19_same.s1
    exact wp_f (decide_eq_false (by rw [hsl]; exact Int.lt_irrefl _)) (wp_some ⟨rfl, k⟩)
theorem same19_leaves (t : Bth H c a r size many now o v K) (hok : PlOK (seeP now o) a.f a.n) (hlen : (seeP now o).tx.length ≤ 100000) {s : Sl} (hs : Row K 3 s (rowsOf ctF ((seeP now o).st.lv.map (leafR (seeP now o))))) (hsl : s.len = (seeP now o).st.lv.length) {G0 : Heap} :
    WP (loopW (law19_same.s2 (some (c, 0)) H ((s, ()), G0)) (0, ()) K) fun x => x.1 = .inl () ∧ Keep (fun _ => False) K x.2 := by
  have hq : ∀ {G}, Keep (fun _ => False) K G → P5At G v (seeP now o) := fun k => (t.keep k).p
  have hv : ∀ {G}, Keep (fun _ => False) K G → G[H.length]? = some (.cells (v5C v) .exact) := fun k => (t.keep k).b
  have hget : ∀ {G}, Keep (fun _ => False) K G → ∀ id p, WP (model_Model_Get (some (c, 0)) id p G) fun y => Keep (fun _ => False) G y.2 ∧ y.1 = (match afind (pgs (seeP now o).st.lv id) p with | none => ([], 181, ()) | some v => (txtP (seeP now o) v, 0, ())) := fun k id p => md_Get (t.keep k).m id p
  have hw0 := t.w
  generalize seeP now o = q at hs hsl hq hw0 hok hlen hget
  have hmany := hw0.many
  refine wp_rise q.st.lv.length (fun i (y : Int × Unit) G => y = ((i : Int), ()) ∧ Keep (fun _ => False) K G) (fun (x : Unit ⊕ (Bool × Unit)) G => x = .inl () ∧ Keep (fun _ => False) K G) ?_ ?_ ⟨rfl, Keep.refl _ _⟩
  · rintro i y G hi ⟨rfl, k⟩
    have hp := (hq k).r
    have hlm : (q.st.lv.map rlv).length = q.st.lv.length := List.length_map _
    have hx : (q.st.lv.map rlv)[i]'(by omega) = rlv q.st.lv[i] := List.getElem_map _
    obtain ⟨b0, o0, r1, r2, _⟩ := Row.rd (cts := ctL) (rows := q.st.lv.map rlv) hp.lv (i := i) (by omega) (by decide)
    rw [hx] at r2
    have hll : (q.st.lv.map (leafR q)).length = q.st.lv.length := List.length_map _
    have hx2 : (q.st.lv.map (leafR q))[i]'(by omega) = leafR q q.st.lv[i] := List.getElem_map _
    have hrw : ∀ {G' : Heap}, Keep (fun _ => False) G G' → ∃ b1 o1, Sl.at 3 s (i : Int) = some (b1, o1) ∧ rd G' (.agg [.int .i64, .int .i64, .str]) b1 o1 = (some (q.st.lv[i].1 / 1024, q.st.lv[i].1 % 1024, txtP q q.st.lv[i].2, ()) : Option (Int × Int × Bytes × Unit)) := fun k' => by
      obtain ⟨b1, o1, e1, e2, _⟩ := Row.rd (cts := ctF) (rows := q.st.lv.map (leafR q)) (hs.keep (k.trans k') fun _ _ _ hf => hf) (i := i) (by omega) (by decide)
      rw [hx2] at e2
      exact ⟨b1, o1, e1, e2⟩
    have hf : afind (pgs q.st.lv (q.st.lv[i].1 / 1024)) (q.st.lv[i].1 % 1024) = some q.st.lv[i].2 := by
      rw [pgs_find hw0.lv, if_pos (by omega), show q.st.lv[i].1 / 1024 * 1024 + q.st.lv[i].1 % 1024 = q.st.lv[i].1 by omega]
      exact hw0.lv.find (List.getElem_mem hi)
    have hat := hok.at_ _ (List.getElem_mem hi)
    generalize q.st.lv[i] = y at r2 hf hrw hat
    have r2 : rd G (.agg [.int .i64, .int .i64, .int .i64]) b0 o0 = (some (y.1 / 1024, y.1 % 1024, y.2, ()) : Option (Int × Int × Int × Unit)) := r2
    have k1 := Keep.app (fun _ => False) G [.cells [.int .i64 (y.1 / 1024), .int .i64 (y.1 % 1024), .int .i64 y.2] .exact]
    have c1 : (G ++ [Blk.cells [.int .i64 (y.1 / 1024), .int .i64 (y.1 % 1024), .int .i64 y.2] .exact])[G.length]? = some (.cells [.int .i64 (y.1 / 1024), .int .i64 (y.1 % 1024), .int .i64 y.2] .exact) := by rw [tl_get0]; rfl
    have hw := wrap_succ (show i < 9223372036854775807 by omega)
    unfold law19_same.s2
    refine wp_t (decide_eq_true (by rw [hsl]; exact Int.ofNat_lt.2 hi)) (wp_to (rdSl_of (hv k) (n := v.2.1) rfl) (wp_to r1 (wp_to r2 (wp_tmp (wp_to (rd5 (hv (k.trans k1))) ?_)))))
    refine wp_to (rdI_of c1 (n := y.1 / 1024) rfl) (wp_to (rdI_of c1 (n := y.1 % 1024) rfl) (wp_seq _ (pl_get (hq (k.trans k1)) (fun x hx => (hok.at_ x hx).2) hlen _ _) ?_))
    rintro ⟨z, G2⟩ ⟨k2, hz⟩
    have k2 : Keep (fun _ => False) (G ++ [Blk.cells [.int .i64 (y.1 / 1024), .int .i64 (y.1 % 1024), .int .i64 y.2] .exact]) G2 := k2
    rw [hf] at hz
    simp only [if_neg (show ¬ y.2 < 1000 by omega)] at hz
    subst hz
    have c2 := k2.get c1 fun hf => hf
    refine wp_to (rdI_of c2 (n := y.1 / 1024) rfl) (wp_to (rdI_of c2 (n := y.1 % 1024) rfl) (wp_seq _ (hget ((k.trans k1).trans k2) _ _) ?_))
    rintro ⟨z, G3⟩ ⟨k3, hz⟩
    have k3 : Keep (fun _ => False) G2 G3 := k3
    rw [hf] at hz
    simp only at hz
    subst hz
    have c3 := k3.get c2 fun hf => hf
    obtain ⟨b1, o1, e1, e2⟩ := hrw ((k1.trans k2).trans k3)
    refine wp_to e1 (wp_to e2 (wp_to (rdI_of c3 (n := y.1 / 1024) rfl) (wp_to (rdI_of c3 (n := y.1 % 1024) rfl) ?_)))
    refine wp_f (by simp) (wp_f (by simp) (wp_f (by simp) (wp_some ⟨?_, ((k.trans k1).trans k2).trans k3⟩)))
    simp only [hw]
  · rintro y G ⟨rfl, k⟩
    unfold law19_same.s2
    exact wp_f (decide_eq_false (by rw [hsl]; exact Int.lt_irrefl _)) (wp_some ⟨rfl, k⟩)
theorem law19_same_eq (hm : MdAt H c a r size many now o) (hp : P5At H v (seeP now o)) (hlen : (seeP now o).tx.length ≤ 100000) : WP (law19_same (some (c, 0)) v H) fun x => x.1.1 = true ∧ Keep (fun _ => False) H x.2 := by
  have k0 := Keep.app (fun _ => False) H [.cells (v5C v) .exact]
  have t0 : Bth H c a r size many now o v (H ++ [.cells (v5C v) .exact]) := ⟨k0, hm.keep k0, hp.keep k0 fun _ _ hf => hf, by rw [tl_get0]; rfl⟩
  obtain ⟨_, _, _, _, hok⟩ := md_see hm
  unfold law19_same
  refine wp_seq _ (md_Spaces t0.m) ?_
  rintro ⟨⟨s1, ⟨⟩⟩, G1⟩ ⟨s', hs, h1, h2, k1⟩
  cases hs
  have k1 : Keep (fun _ => False) _ G1 := k1
  have h1 : Row G1 4 s1 (rowsOf ctI (infos (seeP now o).st)) := h1
  have t1 := t0.keep k1
  refine wp_seq _ (md_Leaves t1.m) ?_
  rintro ⟨⟨s2, ⟨⟩⟩, G2⟩ ⟨s', hs, h3, h4, k2⟩
  cases hs
  have k2 : Keep (fun _ => False) G1 G2 := k2
  have h3 : Row G2 3 s2 (rowsOf ctF ((seeP now o).st.lv.map (leafR (seeP now o)))) := h3
  have t2 := t1.keep k2
  have l1 : v.1.len = (seeP now o).st.sp.length := hp.r.spl
  have l2 : v.2.1.len = (seeP now o).st.lv.length := hp.r.lvl
  refine wp_to (rdSl_of t2.b (n := v.1) rfl) (wp_f (by simp [h2, l1]) (wp_to (rdSl_of t2.b (n := v.2.1) rfl) (wp_f (by simp [h4, l2]) ?_)))
  refine wp_seq _ (same19_spaces t2 (h1.keep k2 fun _ _ _ hf => hf) h2) ?_
  rintro ⟨x, G3⟩ ⟨rfl, k3⟩
  have k3 : Keep (fun _ => False) G2 G3 := k3
  have t3 := t2.keep k3
  refine wp_seq _ (same19_leaves t3 hok hlen (h3.keep k3 fun _ _ _ hf => hf) h4) ?_
  rintro ⟨x, G4⟩ ⟨rfl, k4⟩
  exact wp_some ⟨rfl, (t3.keep k4).k⟩
end
end Ev

namespace Ev
open Go (IntKind)

theorem room_some (x : Int) : ∃ r, law19_room x = some (r, ()) := by
  refine ⟨(IntKind.wrap .i64 (1 + (bitsI .and .i64 x 15)), IntKind.wrap .i64 (2 + (bitsI .and .i64 (IntKind.wrap .i64 (2 * x)) 31)), 0, 0, ()), ?_⟩
  unfold law19_room law19_room.on
  rfl
theorem room9 : law19_room 9 = some ((10, 20, 0, 0, ()), ()) := by
  unfold law19_room law19_room.on
  rfl
def aw1 : Tx := ((Tx.mk ⟨⟨[], [], [], []⟩, []⟩ 0).doS (4, 1, 0, 0, 0, 4, ()) (10, 20, 0, 0, ())).2
def aw2 : Tx := (aw1.putS 1 0 [116, 101, 120, 116] (10, 20, 0, 0, ()) 64).2
theorem awake19 : law19_awake = some (true, ()) := by
  have key : WP (law19_awake.on []) fun x => x.1 = true := by
    unfold law19_awake.on
    obtain ⟨c, G, n1, _, _, a, na, hM⟩ := md_New [] (10, 20, 0, 0, ()) 64
    refine wp_to room9 (wp_to n1 (wp_seq _ (md_Begin hM) ?_))
    rintro ⟨⟨e1, ⟨⟩⟩, G1⟩ ⟨_, q1, a1, na1, hM1⟩
    have q1 : e1 = 0 := q1
    subst q1
    refine wp_seq _ (md_Do hM1 (4, 1, 0, 0, 0, 4, ())) ?_
    rintro ⟨⟨e2, ⟨⟩⟩, G2⟩ ⟨_, q2, a2, m2, na2, hM2⟩
    have q2 : e2 = 0 := q2
    subst q2
    have hM2 : MdAt G2 c a2 (10, 20, 0, 0, ()) 64 m2 ⟨⟨[], [], [], []⟩, []⟩ (some aw1) := hM2
    refine wp_seq _ (md_Put hM2 1 0 [116, 101, 120, 116] (by omega)) ?_
    rintro ⟨⟨e3, ⟨⟩⟩, G3⟩ ⟨_, q3, a3, m3, na3, hM3⟩
    have q3 : e3 = 0 := q3
    subst q3
    have hM3 : MdAt G3 c a3 (10, 20, 0, 0, ()) 64 m3 ⟨⟨[], [], [], []⟩, []⟩ (some aw2) := hM3
    refine wp_seq (fun x => x.1.1 = 0 ∧ ∃ a' m', MdAt x.2 c a' (10, 20, 0, 0, ()) 64 m' aw2.p none) ?_ ?_
    · unfold model_Model_Commit
      refine wp_seq _ (md_end hM3 true) ?_
      rintro ⟨⟨e4, ⟨⟩⟩, G4⟩ ⟨_, q4, a4, _, hM4⟩
      exact wp_some ⟨q4, a4, _, hM4⟩
    rintro ⟨⟨e4, ⟨⟩⟩, G4⟩ ⟨q4, a4, m4, hM4⟩
    have q4 : e4 = 0 := q4
    subst q4
    have hM4 : MdAt G4 c a4 (10, 20, 0, 0, ()) 64 m4 aw2.p none := hM4
    refine wp_seq _ (md_Get hM4 1 0) ?_
    rintro ⟨⟨tx, e5, ⟨⟩⟩, G5⟩ ⟨k5, q5⟩
    have q5 : (tx, e5, ()) = (([116, 101, 120, 116] : Bytes), (0 : Int), ()) := q5
    cases q5
    have hM5 := hM4.keep k5
    refine wp_t rfl (wp_t rfl (wp_t rfl (wp_t rfl (wp_t rfl (wp_t (decide_eq_true rfl) (wp_seq _ (md_Leaves hM5) ?_))))))
    rintro ⟨⟨s6, ⟨⟩⟩, G6⟩ ⟨s', hs, _, l6, k6⟩
    cases hs
    have l6 : s6.len = 1 := l6
    refine wp_t (by simp [l6]) (wp_seq _ (md_Spaces (hM5.keep k6)) ?_)
    rintro ⟨⟨s7, ⟨⟩⟩, G7⟩ ⟨s', hs, _, l7, _⟩
    cases hs
    have l7 : s7.len = 1 := l7
    exact wp_some (by simp [l7])
  obtain ⟨⟨b, ⟨⟩⟩, e1, e2⟩ := key
  have e2 : b = true := e2
  subst e2
  exact e1
end Ev

namespace Ev
open Go (IntKind)

abbrev ctA : List CT := [.int .i64, .int .i64, .int .i64, .int .i64, .int .i64, .int .i64, .int .i64, .str]
abbrev ActT := Int × Int × Int × Int × Int × Int × Int × Bytes × Unit
/-- An act's record; what a page is to say. -/
def actR (x : ActT) : RecT := (x.2.1, x.2.2.1, x.2.2.2.1, x.2.2.2.2.1, x.2.2.2.2.2.1, x.2.2.2.2.2.2.1, ())
def actS (x : ActT) : Bytes := x.2.2.2.2.2.2.2.1
/-- What an act does; what is told. -/
def actM (now : Pln) (o : Option Tx) (x : ActT) (r : RoomT) (size : Int) : Int × Pln × Option Tx :=
  if x.1 = 0 then (match o with | none => (0, now, some ⟨now, 0⟩) | some t => (180, now, some t)) else
  if x.1 = 1 ∨ x.1 = 2 then (match o with | none => (180, now, none) | some t => (0, t.p, none)) else
  if x.1 = 3 then (match o with | none => (180, now, none) | some t => (0, now, none)) else
  if x.2.1 = 1 then ((putO o x.2.2.1 x.2.2.2.1 (actS x) r size).1, now, (putO o x.2.2.1 x.2.2.2.1 (actS x) r size).2) else ((doO o (actR x) r).1, now, (doO o (actR x) r).2)
section
variable {H G K : Heap} {c : Nat} {a : MdA} {r : RoomT} {size many : Int} {now : Pln} {o : Option Tx} {v : P5} {w : P6} {x : ActT}
theorem row_act {x0 : Sl} {rows : List ActT} (hr : Row G 8 x0 (rowsOf ctA rows)) {i : Nat} (hi : i < rows.length) : ∃ b o, Sl.at 8 x0 (i : Int) = some (b, o) ∧ ∀ {K : Heap}, Row K 8 x0 (rowsOf ctA rows) → rdI .i64 K b o = some rows[i].1 ∧
    rd K (.agg [.int .i64, .int .i64, .int .i64, .int .i64, .int .i64, .int .i64, .str]) b (o + 1) = (some (rows[i].2) : Option (Int × Int × Int × Int × Int × Int × Bytes × Unit)) := by
  obtain ⟨b, o, e1, _⟩ := Row.rd (cts := ctA) hr (i := i) hi (by decide)
  have e1 : Sl.at 8 x0 (i : Int) = some (b, o) := e1
  refine ⟨b, o, e1, fun {K} hk => ?_⟩
  obtain ⟨b1, o1, e2, _, _, cs, bk, r3, r4, r5⟩ := Row.rd (cts := ctA) hk (i := i) hi (by decide)
  have e2 : Sl.at 8 x0 (i : Int) = some (b1, o1) := e2
  rw [e1] at e2
  cases e2
  have hrow : (cs.drop o).take 8 = Tup.mk ctA rows[i] := r5
  generalize rows[i] = y at hrow
  obtain ⟨y0, y1, y2, y3, y4, y5, y6, y7, ⟨⟩⟩ := y
  have hl : o + 8 ≤ cs.length := r4
  constructor
  · refine rdI_of r3 ?_
    have := congrArg (fun l => l[0]?) hrow
    simp only [List.getElem?_take, List.getElem?_drop] at this
    rw [if_pos (by decide : 0 < 8)] at this
    exact this
  · refine rd_agg_of r3 (by simp; omega) ?_
    have : ((cs.drop (o + 1)).take 7) = ((cs.drop o).take 8).drop 1 := by rw [List.drop_take, List.drop_drop]
    show Tup.un [.int .i64, .int .i64, .int .i64, .int .i64, .int .i64, .int .i64, .str] ((cs.drop (o + 1)).take 7) = _
    rw [this, hrow]; rfl
/-- The device, the document's, and the two boxes. -/
structure Ply (L N T c : Nat) (r : RoomT) (i : Nat) (G : Heap) (a : MdA) (many : Int) (now : Pln) (o : Option Tx) (v : P5) (w : P6) : Prop where
  m : MdAt G c a r 64 many now o
  pv : P5At G v now
  bN : G[N]? = some (.cells (v5C v) .exact)
  bT : G[T]? = some (.cells (v6C w) .exact)
  pw : ∀ t, o = some t → P6At G w t
  ne : N ≠ T ∧ N ≠ c ∧ T ≠ c
  lo : L ≤ N ∧ L ≤ T ∧ L ≤ c
  ov : ∀ b, blk5 v b → b ≠ N ∧ b ≠ T ∧ b ≠ c
  ow : ∀ t, o = some t → ∀ b, blk5 (p5 w) b → b ≠ N ∧ b ≠ T ∧ b ≠ c
  n : a.n ≤ i
  ln : now.tx.length ≤ i
  lt : ∀ t, o = some t → t.p.tx.length ≤ i
variable {L N T : Nat} {i : Nat}
theorem Ply.keep (h : Ply L N T c r i G a many now o v w) (k : Keep (fun _ => False) G K) : Ply L N T c r i K a many now o v w :=
  ⟨h.m.keep k, h.pv.keep k fun _ _ hf => hf, k.get h.bN fun hf => hf, k.get h.bT fun hf => hf, fun t ht => (h.pw t ht).keep k fun _ _ hf => hf, h.ne, h.lo, h.ov, h.ow, h.n, h.ln, h.lt⟩
/-- The device goes on. -/
theorem Ply.mo (h : Ply L N T c r i G a many now o v w) (k : Keep (fun b => b = c) G K) : P5At K v now ∧ K[N]? = some (.cells (v5C v) .exact) ∧ K[T]? = some (.cells (v6C w) .exact) ∧ (∀ t, o = some t → P6At K w t) :=
  ⟨h.pv.keep k fun b hb e => (h.ov b hb).2.2 e, k.get h.bN h.ne.2.1, k.get h.bT h.ne.2.2, fun t ht => (h.pw t ht).keep k fun b hb e => (h.ow t ht b hb).2.2 e⟩
theorem wr65 {B : Nat} {cs : List C} (hb : G[B]? = some (.cells cs .exact)) (hl : cs.length = 6) (v : P5) : wr G B 0 [.sl 3 v.1, .sl 3 v.2.1, .sl 1 v.2.2.1, .sl 2 v.2.2.2.1, .sl 1 v.2.2.2.2.1, .int .i64 0] = some (G.set B (.cells (v6C (v.1, v.2.1, v.2.2.1, v.2.2.2.1, v.2.2.2.2.1, 0, ())) .exact)) := wr6 hb hl (v.1, v.2.1, v.2.2.1, v.2.2.2.1, v.2.2.2.2.1, 0, ())
theorem wr5 {B : Nat} {cs : List C} (hb : G[B]? = some (.cells cs .exact)) (hl : cs.length = 5) (v : P5) : wr G B 0 [.sl 3 v.1, .sl 3 v.2.1, .sl 1 v.2.2.1, .sl 2 v.2.2.2.1, .sl 1 v.2.2.2.2.1] = some (G.set B (.cells (v5C v) .exact)) := by
  rw [wr_of hb (by decide) (by rw [hl]; exact Nat.le_refl 5)]
  obtain ⟨c0, c1, c2, c3, c4, rfl⟩ : ∃ c0 c1 c2 c3 c4, cs = [c0, c1, c2, c3, c4] := by
    match cs, hl with
    | [c0, c1, c2, c3, c4], _ => exact ⟨c0, c1, c2, c3, c4, rfl⟩
  rfl
theorem putS_len (t : Tx) (id p : Int) (text : Bytes) (r : RoomT) (size : Int) : (t.putS id p text r size).2.p.tx.length ≤ t.p.tx.length + 1 := by
  unfold Tx.putS Tx.stepP
  repeat' split
  all_goals simp
theorem doS_len (t : Tx) (x : RecT) (r : RoomT) : (t.doS x r).2.p.tx.length ≤ t.p.tx.length := by
  unfold Tx.doS Tx.stepD
  repeat' split
  all_goals simp
end
end Ev

namespace Ev
open Go (IntKind)

section
variable {H G K : Heap} {c : Nat} {a : MdA} {r : RoomT} {size many : Int} {now : Pln} {o : Option Tx} {v : P5} {w : P6} {x : ActT} {L N T i : Nat}
/-- What an act comes to. -/
def ActQ (L N T c : Nat) (r : RoomT) (i : Nat) (G : Heap) (m : Int × Pln × Option Tx) (p : (Bool × Int × Int × Unit) × Heap) : Prop :=
  p.1 = (m.2.2.isSome, m.1, m.1, ()) ∧ Keep (fun b => L ≤ b) G p.2 ∧ ∃ a' many' v' w', Ply L N T c r i p.2 a' many' m.2.1 m.2.2 v' w'
theorem act_begin (h : Ply L N T c r i G a many now o v w) {G5 G6 : Heap} (hN : G5.length = N) (hT : G6.length = T) {m : Int × Pln × Option Tx} (hm : m = match o with | none => (0, now, some ⟨now, 0⟩) | some t => (180, now, some t)) :
    WP ((model_Model_Begin (some (c, 0)) G).bind fun (r19 : ((Int × Unit) × Heap)) =>
 cond (!o.isSome) (
 Option.bind (α := P5) (rd r19.2 (.agg [.sl 3, .sl 3, .sl 1, .sl 2, .sl 1]) G5.length 0) fun (v20 : P5) =>
 (wr r19.2 G6.length 0 [.sl 3 v20.1, .sl 3 v20.2.1, .sl 1 v20.2.2.1, .sl 2 v20.2.2.2.1, .sl 1 v20.2.2.2.2.1, .int .i64 0]).bind fun (H21 : Heap) =>
 some ((true, 0, r19.1.1, ()), H21)) (
 some ((o.isSome, 180, r19.1.1, ()), r19.2))) (ActQ L N T c r (i + 1) G m) := by
  refine wp_seq _ (md_Begin h.m) ?_
  rw [hN, hT]
  rintro ⟨⟨e, ⟨⟩⟩, K⟩ ⟨kK, hK⟩
  have kK : Keep (fun b => b = c) G K := kK
  have kL : Keep (fun b => L ≤ b) G K := kK.mono fun b e => by rw [e]; exact h.lo.2.2
  obtain ⟨q1, q2, q3, q4⟩ := h.mo kK
  cases o with
  | none =>
    obtain ⟨he, a', ha', hM⟩ := hK
    have he : e = 0 := he
    subst he hm
    have kT : Keep (fun b => b = T) K (K.set T (.cells (v6C (v.1, v.2.1, v.2.2.1, v.2.2.2.1, v.2.2.2.2.1, 0, ())) .exact)) := Keep.set _ _ _ rfl
    refine wp_t rfl (wp_to (rd5 q2) (wp_to (wr65 q3 rfl v) (wp_some ⟨rfl, kL.trans (kT.mono fun b e => by rw [e]; exact h.lo.2.1), a', 0, v, (v.1, v.2.1, v.2.2.1, v.2.2.2.1, v.2.2.2.2.1, 0, ()), ?_⟩)))
    have hv' : P5At (K.set T (.cells (v6C (v.1, v.2.1, v.2.2.1, v.2.2.2.1, v.2.2.2.2.1, 0, ())) .exact)) v now := q1.keep kT fun b hb e => (h.ov b hb).2.1 e
    refine ⟨hM.other h.ne.2.2 q3 kT, hv', kT.get q2 h.ne.1, set_get (get_lt q3), fun t ht => ?_, h.ne, h.lo, h.ov, fun t ht b hb => h.ov b hb, by have := h.n; omega, Nat.le_succ_of_le h.ln, fun t ht => ?_⟩
    · cases ht; exact ⟨hv', rfl⟩
    · cases ht; have := h.ln; simp only; omega
  | some t =>
    obtain ⟨he, hM⟩ := hK
    have he : e = 180 := he
    subst he hm
    refine wp_f rfl (wp_some ⟨rfl, kL, a, many, v, w, ?_⟩)
    exact ⟨hM, q1, q2, q3, q4, h.ne, h.lo, h.ov, h.ow, by have := h.n; omega, Nat.le_succ_of_le h.ln, fun t' ht => by have := h.lt t' ht; omega⟩
theorem act_commit (h : Ply L N T c r i G a many now o v w) {G5 G6 : Heap} (hN : G5.length = N) (hT : G6.length = T) {m : Int × Pln × Option Tx} (hm : m = match o with | none => (180, now, none) | some t => (0, t.p, none)) :
    WP ((model_Model_Commit (some (c, 0)) G).bind fun (r23 : ((Int × Unit) × Heap)) =>
 cond o.isSome (
 Option.bind (α := P5) (rd r23.2 (.agg [.sl 3, .sl 3, .sl 1, .sl 2, .sl 1]) G6.length 0) fun (v24 : P5) =>
 (wr r23.2 G5.length 0 [.sl 3 v24.1, .sl 3 v24.2.1, .sl 1 v24.2.2.1, .sl 2 v24.2.2.2.1, .sl 1 v24.2.2.2.2.1]).bind fun (H25 : Heap) =>
 some ((false, 0, r23.1.1, ()), H25)) (
 some ((o.isSome, 180, r23.1.1, ()), r23.2))) (ActQ L N T c r (i + 1) G m) := by
  unfold model_Model_Commit
  refine wp_bind (wp_seq _ (md_end h.m true) ?_)
  rw [hN, hT]
  rintro ⟨⟨e, ⟨⟩⟩, K⟩ ⟨kK, hK⟩
  refine wp_some ?_
  have kK : Keep (fun b => b = c) G K := kK
  have kL : Keep (fun b => L ≤ b) G K := kK.mono fun b e => by rw [e]; exact h.lo.2.2
  obtain ⟨q1, q2, q3, q4⟩ := h.mo kK
  cases o with
  | none =>
    obtain ⟨he, hM⟩ := hK
    have he : e = 180 := he
    subst he hm
    refine wp_f rfl (wp_some ⟨rfl, kL, a, many, v, w, ?_⟩)
    exact ⟨hM, q1, q2, q3, q4, h.ne, h.lo, h.ov, h.ow, by have := h.n; omega, Nat.le_succ_of_le h.ln, fun t' ht => by cases ht⟩
  | some t =>
    obtain ⟨he, a', ha', hM⟩ := hK
    have he : e = 0 := he
    subst he hm
    have kN : Keep (fun b => b = N) K (K.set N (.cells (v5C (p5 w)) .exact)) := Keep.set _ _ _ rfl
    refine wp_t rfl (wp_to (rd65 q3) (wp_to (wr5 q2 rfl (p5 w)) (wp_some ⟨rfl, kL.trans (kN.mono fun b e => by rw [e]; exact h.lo.1), a', many, p5 w, w, ?_⟩)))
    refine ⟨hM.other h.ne.2.1 q2 kN, (q4 t rfl).p.keep kN fun b hb e => (h.ow t rfl b hb).1 e, set_get (get_lt q2), kN.get q3 (Ne.symm h.ne.1), fun t' ht => (by cases ht), h.ne, h.lo, fun b hb => h.ow t rfl b hb, fun t' ht => (by cases ht), by have := h.n; omega, ?_, fun t' ht => (by cases ht)⟩
    exact Nat.le_succ_of_le (h.lt t rfl)
theorem act_abort (h : Ply L N T c r i G a many now o v w) {m : Int × Pln × Option Tx} (hm : m = match o with | none => (180, now, none) | some t => (0, now, none)) :
    WP ((model_Model_Abort (some (c, 0)) G).bind fun (r26 : ((Int × Unit) × Heap)) =>
 cond o.isSome (
 some ((false, 0, r26.1.1, ()), r26.2)) (
 some ((o.isSome, 180, r26.1.1, ()), r26.2))) (ActQ L N T c r (i + 1) G m) := by
  unfold model_Model_Abort
  refine wp_bind (wp_seq _ (md_end h.m false) ?_)
  rintro ⟨⟨e, ⟨⟩⟩, K⟩ ⟨kK, hK⟩
  refine wp_some ?_
  have kK : Keep (fun b => b = c) G K := kK
  have kL : Keep (fun b => L ≤ b) G K := kK.mono fun b e => by rw [e]; exact h.lo.2.2
  obtain ⟨q1, q2, q3, q4⟩ := h.mo kK
  cases o with
  | none =>
    obtain ⟨he, hM⟩ := hK
    have he : e = 180 := he
    subst he hm
    refine wp_f rfl (wp_some ⟨rfl, kL, a, many, v, w, ?_⟩)
    exact ⟨hM, q1, q2, q3, q4, h.ne, h.lo, h.ov, h.ow, by have := h.n; omega, Nat.le_succ_of_le h.ln, fun t' ht => by cases ht⟩
  | some t =>
    obtain ⟨he, a', ha', hM⟩ := hK
    have he : e = 0 := he
    subst he hm
    refine wp_t rfl (wp_some ⟨rfl, kL, a', many, v, w, ?_⟩)
    exact ⟨hM, q1, q2, q3, fun t' ht => (by cases ht), h.ne, h.lo, h.ov, fun t' ht => (by cases ht), by have := h.n; omega, Nat.le_succ_of_le h.ln, fun t' ht => (by cases ht)⟩
/-- A transaction that has gone on is laid into its box. -/
theorem act_box {a0 : MdA} {many0 : Int} {t t' : Tx} {G' : Heap} {w' : P6} (hm : MdAt G c a r 64 many now (some t')) (hv : P5At G v now) (bN : G[N]? = some (.cells (v5C v) .exact)) (bT : G[T]? = some (.cells (v6C w) .exact)) (h : Ply L N T c r i K a0 many0 now (some t) v w) (hr : P6Res G w G' w' t') (hn : a.n ≤ i + 1) (hl : t'.p.tx.length ≤ i + 1) :
    wr G' T 0 [.sl 3 w'.1, .sl 3 w'.2.1, .sl 1 w'.2.2.1, .sl 2 w'.2.2.2.1, .sl 1 w'.2.2.2.2.1, .int .i64 w'.2.2.2.2.2.1] = some (G'.set T (.cells (v6C w') .exact)) ∧ Keep (fun b => L ≤ b) G (G'.set T (.cells (v6C w') .exact)) ∧ Ply L N T c r (i + 1) (G'.set T (.cells (v6C w') .exact)) a many now (some t') v w' := by
  have bT' := hr.k.get bT fun hf => hf
  have kT : Keep (fun b => b = T) G' (G'.set T (.cells (v6C w') .exact)) := Keep.set _ _ _ rfl
  have hTl := get_lt bT
  have hNl := get_lt bN
  have hcl := get_lt hm.c
  have how : ∀ b, blk5 (p5 w') b → b ≠ N ∧ b ≠ T ∧ b ≠ c := fun b hb => by
    rcases hr.n b hb with hh | hh
    · exact h.ow t rfl b hh
    · exact ⟨by omega, by omega, by omega⟩
  refine ⟨wr6 bT' rfl w', (hr.k.mono fun _ hf => hf.elim).trans (kT.mono fun b e => by rw [e]; exact h.lo.2.1), ?_⟩
  exact ⟨(hm.keep hr.k).other h.ne.2.2 bT' kT, (hv.keep hr.k fun _ _ hf => hf).keep kT fun b hb e => (h.ov b hb).2.1 e, kT.get (hr.k.get bN fun hf => hf) h.ne.1, set_get (get_lt bT'), fun t2 ht => by cases ht; exact hr.s.keep kT fun b hb e => (how b hb).2.1 e, h.ne, h.lo, h.ov, fun t2 ht b hb => how b hb, hn, Nat.le_succ_of_le h.ln, fun t2 ht => by cases ht; exact hl⟩
end
end Ev

namespace Ev
open Go (IntKind)

section
variable {H G K : Heap} {c : Nat} {a : MdA} {r : RoomT} {size many : Int} {now : Pln} {o : Option Tx} {v : P5} {w : P6} {x : ActT} {L N T i : Nat}
def actB (y : Int × Int × Int × Int × Int × Int × Bytes × Unit) : Blk := .cells [.int .i64 y.1, .int .i64 y.2.1, .int .i64 y.2.2.1, .int .i64 y.2.2.2.1, .int .i64 y.2.2.2.2.1, .int .i64 y.2.2.2.2.2.1, .str y.2.2.2.2.2.2.1] .exact
def chgM (now : Pln) (o : Option Tx) (x : ActT) (r : RoomT) : Int × Pln × Option Tx :=
  if x.2.1 = 1 then ((putO o x.2.2.1 x.2.2.2.1 (actS x) r 64).1, now, (putO o x.2.2.1 x.2.2.2.1 (actS x) r 64).2) else ((doO o (actR x) r).1, now, (doO o (actR x) r).2)
theorem act_change (h : Ply L N T c r i G a many now o v w) {G6 G0 H12 : Heap} (hT : G6.length = T) {B : Nat} (hB : H12.length = B) (hBc : B ≠ N ∧ B ≠ T ∧ B ≠ c) (tB : G[B]? = some (actB x.2)) (tR : G[G0.length]? = some (.cells [.int .i64 r.1, .int .i64 r.2.1, .int .i64 r.2.2.1, .int .i64 r.2.2.2.1] .exact)) (hRL : G0.length < L) (hi : i ≤ 1000) :
    WP (((rdI .i64 G H12.length 0).bind fun (v27 : Int) =>
 cond (decide (v27 = 1)) (
 (rdI .i64 G H12.length 1).bind fun (v28 : Int) =>
 (rdI .i64 G H12.length 2).bind fun (v29 : Int) =>
 (rdS G H12.length 6).bind fun (v30 : Bytes) =>
 (model_Model_Put (some (c, 0)) v28 v29 v30 G).bind fun (r31 : ((Int × Unit) × Heap)) =>
 some ((r31.1.1, ()), r31.2)) (
 Option.bind (α := RecT) (rd G (.agg [.int .i64, .int .i64, .int .i64, .int .i64, .int .i64, .int .i64]) H12.length 0) fun (v32 : RecT) =>
 (model_Model_Do (some (c, 0)) (v32.1, v32.2.1, v32.2.2.1, v32.2.2.2.1, v32.2.2.2.2.1, v32.2.2.2.2.2.1, ()) G).bind fun (r33 : ((Int × Unit) × Heap)) =>
 some ((r33.1.1, ()), r33.2)) : Option ((Int × Unit) × Heap)).bind fun (p34 : (Int × Unit) × Heap) =>
 ((cond o.isSome (
 (rdI .i64 p34.2 H12.length 0).bind fun (v35 : Int) =>
 some (((decide (v35 = 1)), ()), p34.2)) (
 some ((false, ()), p34.2)) : Option ((Bool × Unit) × Heap)).bind fun (p36 : (Bool × Unit) × Heap) =>
 cond p36.1.1 (
 Option.bind (α := P6) (rd p36.2 (.agg [.sl 3, .sl 3, .sl 1, .sl 2, .sl 1, .int .i64]) G6.length 0) fun (v37 : P6) =>
 (rdI .i64 p36.2 H12.length 1).bind fun (v38 : Int) =>
 (rdI .i64 p36.2 H12.length 2).bind fun (v39 : Int) =>
 (rdS p36.2 H12.length 6).bind fun (v40 : Bytes) =>
 Option.bind (α := RoomT) (rd p36.2 (.agg [.int .i64, .int .i64, .int .i64, .int .i64]) G0.length 0) fun (v41 : RoomT) =>
 (law17_Plain_Put (v37.1, v37.2.1, v37.2.2.1, v37.2.2.2.1, v37.2.2.2.2.1, v37.2.2.2.2.2.1, ()) v38 v39 v40 (v41.1, v41.2.1, v41.2.2.1, v41.2.2.2.1, ()) 64 p36.2).bind fun (r42 : ((P6 × Int × Unit) × Heap)) =>
 (wr r42.2 G6.length 0 [.sl 3 r42.1.1.1, .sl 3 r42.1.1.2.1, .sl 1 r42.1.1.2.2.1, .sl 2 r42.1.1.2.2.2.1, .sl 1 r42.1.1.2.2.2.2.1, .int .i64 r42.1.1.2.2.2.2.2.1]).bind fun (H43 : Heap) =>
 some ((r42.1.2.1, ()), H43)) (
 some ((180, ()), p36.2)) : Option ((Int × Unit) × Heap)).bind fun (p44 : (Int × Unit) × Heap) =>
 (cond o.isSome (
 (rdI .i64 p44.2 H12.length 0).bind fun (v45 : Int) =>
 some (((!decide (v45 = 1)), ()), p44.2)) (
 some ((false, ()), p44.2)) : Option ((Bool × Unit) × Heap)).bind fun (p46 : (Bool × Unit) × Heap) =>
 cond p46.1.1 (
 Option.bind (α := P6) (rd p46.2 (.agg [.sl 3, .sl 3, .sl 1, .sl 2, .sl 1, .int .i64]) G6.length 0) fun (v47 : P6) =>
 Option.bind (α := RecT) (rd p46.2 (.agg [.int .i64, .int .i64, .int .i64, .int .i64, .int .i64, .int .i64]) H12.length 0) fun (v48 : RecT) =>
 Option.bind (α := RoomT) (rd p46.2 (.agg [.int .i64, .int .i64, .int .i64, .int .i64]) G0.length 0) fun (v49 : RoomT) =>
 (law17_Plain_Do (v47.1, v47.2.1, v47.2.2.1, v47.2.2.2.1, v47.2.2.2.2.1, v47.2.2.2.2.2.1, ()) (v48.1, v48.2.1, v48.2.2.1, v48.2.2.2.1, v48.2.2.2.2.1, v48.2.2.2.2.2.1, ()) (v49.1, v49.2.1, v49.2.2.1, v49.2.2.2.1, ()) p46.2).bind fun (r50 : ((P6 × Int × Unit) × Heap)) =>
 (wr r50.2 G6.length 0 [.sl 3 r50.1.1.1, .sl 3 r50.1.1.2.1, .sl 1 r50.1.1.2.2.1, .sl 2 r50.1.1.2.2.2.1, .sl 1 r50.1.1.2.2.2.2.1, .int .i64 r50.1.1.2.2.2.2.2.1]).bind fun (H51 : Heap) =>
 some ((o.isSome, r50.1.2.1, p34.1.1, ()), H51)) (
 some ((o.isSome, p44.1.1, p34.1.1, ()), p46.2))) (ActQ L N T c r (i + 1) G (chgM now o x r)) := by
  have rR : ∀ {K : Heap}, K[G0.length]? = some (.cells [.int .i64 r.1, .int .i64 r.2.1, .int .i64 r.2.2.1, .int .i64 r.2.2.2.1] .exact) → rd K (.agg [.int .i64, .int .i64, .int .i64, .int .i64]) G0.length 0 = (some r : Option RoomT) := fun hb => rd_agg_of hb (by simp) (by obtain ⟨r1, r2, r3, r4, ⟨⟩⟩ := r; rfl)
  have rB : ∀ {K : Heap}, K[B]? = some (actB x.2) → rd K (.agg [.int .i64, .int .i64, .int .i64, .int .i64, .int .i64, .int .i64]) B 0 = (some (actR x) : Option RecT) := fun hb => rd_agg_of hb (by simp) rfl
  rw [hB, hT]
  by_cases k1 : x.2.1 = 1
  · have hm : chgM now o x r = ((putO o x.2.2.1 x.2.2.2.1 (actS x) r 64).1, now, (putO o x.2.2.1 x.2.2.2.1 (actS x) r 64).2) := if_pos k1
    rw [hm]
    refine wp_seq (fun p => p.1.1 = (putO o x.2.2.1 x.2.2.2.1 (actS x) r 64).1 ∧ Keep (fun b => b = c) G p.2 ∧ ∃ a' many', a'.n ≤ a.n + 1 ∧ MdAt p.2 c a' r 64 many' now (putO o x.2.2.1 x.2.2.2.1 (actS x) r 64).2) ?_ ?_
    · refine wp_to (rdI_of tB (n := x.2.1) rfl) (wp_t (decide_eq_true k1) (wp_to (rdI_of tB (n := x.2.2.1) rfl) (wp_to (rdI_of tB (n := x.2.2.2.1) rfl) (wp_to (rdS_of tB (n := actS x) rfl) (wp_seq _ (md_Put h.m x.2.2.1 x.2.2.2.1 (actS x) (by have := h.n; omega)) ?_)))))
      rintro ⟨⟨e, ⟨⟩⟩, K⟩ ⟨q1, q2, q3⟩
      exact wp_some ⟨q2, q1, q3⟩
    rintro ⟨⟨e, ⟨⟩⟩, K⟩ ⟨he, kK, a', many', ha', hM⟩
    have kK : Keep (fun b => b = c) G K := kK
    have he : e = (putO o x.2.2.1 x.2.2.2.1 (actS x) r 64).1 := he
    obtain ⟨q1, q2, q3, q4⟩ := h.mo kK
    have kL : Keep (fun b => L ≤ b) G K := kK.mono fun b e => by rw [e]; exact h.lo.2.2
    have tB' := kK.get tB hBc.2.2
    have tR' := kK.get tR (by have := h.lo.2.2; omega)
    cases o with
    | none =>
      have he : e = 180 := he
      subst he
      refine wp_seq (fun p => p = ((180, ()), K)) (wp_seq (fun p => p = ((false, ()), K)) (wp_f rfl (wp_some rfl)) ?_) ?_
      · rintro _ rfl
        exact wp_f rfl (wp_some rfl)
      rintro _ rfl
      refine wp_seq (fun p => p = ((false, ()), K)) (wp_f rfl (wp_some rfl)) ?_
      rintro _ rfl
      refine wp_f rfl (wp_some ⟨rfl, kL, a', many', v, w, ?_⟩)
      exact ⟨hM, q1, q2, q3, fun t ht => (by cases ht), h.ne, h.lo, h.ov, fun t ht => (by cases ht), by have := h.n; omega, Nat.le_succ_of_le h.ln, fun t ht => (by cases ht)⟩
    | some t =>
      have hl := h.lt t rfl
      refine wp_seq (fun p => p.1.1 = (t.putS x.2.2.1 x.2.2.2.1 (actS x) r 64).1 ∧ Keep (fun b => L ≤ b) K p.2 ∧ p.2[B]? = some (actB x.2) ∧ ∃ w', Ply L N T c r (i + 1) p.2 a' many' now (some (t.putS x.2.2.1 x.2.2.2.1 (actS x) r 64).2) v w') ?_ ?_
      · refine wp_seq (fun p => p = ((true, ()), K)) (wp_t rfl (wp_to (rdI_of tB' (n := x.2.1) rfl) (wp_some (by rw [decide_eq_true k1])))) ?_
        rintro _ rfl
        refine wp_t rfl (wp_to (rd6 q3) (wp_to (rdI_of tB' (n := x.2.2.1) rfl) (wp_to (rdI_of tB' (n := x.2.2.2.1) rfl) (wp_to (rdS_of tB' (n := actS x) rfl) (wp_to (rR tR') (wp_seq _ (tx_put (q4 t rfl) x.2.2.1 x.2.2.2.1 (actS x) r 64 (by omega)) ?_))))))
        rintro ⟨⟨w', e', ⟨⟩⟩, K2⟩ ⟨he', hr⟩
        have he' : e' = (t.putS x.2.2.1 x.2.2.2.1 (actS x) r 64).1 := he'
        have hr : P6Res K w K2 w' (t.putS x.2.2.1 x.2.2.2.1 (actS x) r 64).2 := hr
        obtain ⟨b1, b2, b3⟩ := act_box hM q1 q2 q3 h hr (by have := h.n; omega) (by have := putS_len t x.2.2.1 x.2.2.2.1 (actS x) r 64; omega)
        refine wp_to b1 (wp_some ⟨he', b2, ?_, w', b3⟩)
        show (K2.set T _)[B]? = _
        rw [set_get' (Ne.symm hBc.2.1)]
        exact hr.k.get tB' fun hf => hf
      rintro ⟨⟨e2, ⟨⟩⟩, K2⟩ ⟨he2, k2, tB2, w', hP⟩
      have k2 : Keep (fun b => L ≤ b) K K2 := k2
      have he2 : e2 = (t.putS x.2.2.1 x.2.2.2.1 (actS x) r 64).1 := he2
      refine wp_seq (fun p => p = ((false, ()), K2)) (wp_t rfl (wp_to (rdI_of tB2 (n := x.2.1) rfl) (wp_some (by rw [decide_eq_true k1]; rfl)))) ?_
      rintro _ rfl
      have he : e = (t.putS x.2.2.1 x.2.2.2.1 (actS x) r 64).1 := he
      refine wp_f rfl (wp_some ⟨?_, kL.trans k2, a', many', v, w', hP⟩)
      show (true, e2, e, ()) = _
      rw [he2, he]; rfl
  · have hm : chgM now o x r = ((doO o (actR x) r).1, now, (doO o (actR x) r).2) := if_neg k1
    rw [hm]
    refine wp_seq (fun p => p.1.1 = (doO o (actR x) r).1 ∧ Keep (fun b => b = c) G p.2 ∧ ∃ a' many', a'.n ≤ a.n + 1 ∧ MdAt p.2 c a' r 64 many' now (doO o (actR x) r).2) ?_ ?_
    · refine wp_to (rdI_of tB (n := x.2.1) rfl) (wp_f (decide_eq_false k1) (wp_to (rB tB) (wp_seq _ (md_Do h.m (actR x)) ?_)))
      rintro ⟨⟨e, ⟨⟩⟩, K⟩ ⟨q1, q2, a', many', ha', q3⟩
      exact wp_some ⟨q2, q1, a', many', by omega, q3⟩
    rintro ⟨⟨e, ⟨⟩⟩, K⟩ ⟨he, kK, a', many', ha', hM⟩
    have kK : Keep (fun b => b = c) G K := kK
    have he : e = (doO o (actR x) r).1 := he
    obtain ⟨q1, q2, q3, q4⟩ := h.mo kK
    have kL : Keep (fun b => L ≤ b) G K := kK.mono fun b e => by rw [e]; exact h.lo.2.2
    have tB' := kK.get tB hBc.2.2
    have tR' := kK.get tR (by have := h.lo.2.2; omega)
    cases o with
    | none =>
      have he : e = 180 := he
      subst he
      refine wp_seq (fun p => p = ((180, ()), K)) (wp_seq (fun p => p = ((false, ()), K)) (wp_f rfl (wp_some rfl)) ?_) ?_
      · rintro _ rfl
        exact wp_f rfl (wp_some rfl)
      rintro _ rfl
      refine wp_seq (fun p => p = ((false, ()), K)) (wp_f rfl (wp_some rfl)) ?_
      rintro _ rfl
      refine wp_f rfl (wp_some ⟨rfl, kL, a', many', v, w, ?_⟩)
      exact ⟨hM, q1, q2, q3, fun t ht => (by cases ht), h.ne, h.lo, h.ov, fun t ht => (by cases ht), by have := h.n; omega, Nat.le_succ_of_le h.ln, fun t ht => (by cases ht)⟩
    | some t =>
      have hl := h.lt t rfl
      refine wp_seq (fun p => p = ((180, ()), K)) (wp_seq (fun p => p = ((false, ()), K)) (wp_t rfl (wp_to (rdI_of tB' (n := x.2.1) rfl) (wp_some (by rw [decide_eq_false k1])))) ?_) ?_
      · rintro _ rfl
        exact wp_f rfl (wp_some rfl)
      rintro _ rfl
      refine wp_seq (fun p => p = ((true, ()), K)) (wp_t rfl (wp_to (rdI_of tB' (n := x.2.1) rfl) (wp_some (by rw [decide_eq_false k1]; rfl)))) ?_
      rintro _ rfl
      refine wp_t rfl (wp_to (rd6 q3) (wp_to (rB tB') (wp_to (rR tR') (wp_seq _ (tx_do (q4 t rfl) (actR x) r) ?_))))
      rintro ⟨⟨w', e', ⟨⟩⟩, K2⟩ ⟨he', hr⟩
      have he' : e' = (t.doS (actR x) r).1 := he'
      have hr : P6Res K w K2 w' (t.doS (actR x) r).2 := hr
      obtain ⟨b1, b2, b3⟩ := act_box hM q1 q2 q3 h hr (by have := h.n; omega) (by have := doS_len t (actR x) r; omega)
      refine wp_to b1 (wp_some ⟨?_, kL.trans b2, a', many', v, w', b3⟩)
      have he : e = (t.doS (actR x) r).1 := he
      show (true, e', e, ()) = _
      rw [he', he]; rfl
end
end Ev

namespace Ev
open Go (IntKind)

theorem wp_ex19 {α : Type} {x : Option ((Bool × Unit) × α)} (h : WP x fun r => r.1.1 = true) : ∃ H', x = some ((true, ()), H') := by
  obtain ⟨⟨⟨b, ⟨⟩⟩, G⟩, e1, e2⟩ := h
  have e2 : b = true := e2
  subst e2
  exact ⟨G, e1⟩
theorem wp_box5 {G : Heap} {β : Type} {v : P5} {K : Heap → Option β} {Q : β → Prop} (k : WP (K (G ++ [.cells (v5C v) .exact])) Q) :
    WP ((wr (G ++ [Blk.cells [.sl 3 Sl.nil, .sl 3 Sl.nil, .sl 1 Sl.nil, .sl 2 Sl.nil, .sl 1 Sl.nil] .exact]) G.length 0 [.sl 3 v.1, .sl 3 v.2.1, .sl 1 v.2.2.1, .sl 2 v.2.2.2.1, .sl 1 v.2.2.2.2.1]).bind K) Q :=
  wp_to (by rw [wr_t0, wr_c0 _ _ _ _ (by simp)]; rfl) k
section
variable {H G K : Heap} {c : Nat} {a : MdA} {r : RoomT} {size many : Int} {now : Pln} {o : Option Tx} {v : P5} {w : P6} {x : ActT} {L N T i : Nat}
theorem plays19_round (h : Ply L N T c r i G a many now o v w) {x0 : Sl} {rows : List ActT} (hr : Row G 8 x0 (rowsOf ctA rows)) (hi : i < rows.length) (hlen : x0.len = rows.length) (h100 : i < 100) {G0 G5 G6 : Heap} (hN : G5.length = N) (hT : G6.length = T) (tR : G[G0.length]? = some (.cells [.int .i64 r.1, .int .i64 r.2.1, .int .i64 r.2.2.1, .int .i64 r.2.2.2.1] .exact)) (hRL : G0.length < L) :
    WP (law19_ModelPlays.s1 x0 G0 ((some (c, 0), ()), G5) G6 (o.isSome, (i : Int), ()) G) fun p => ∃ now' o', p.1 = .inl (o'.isSome, ((i + 1 : Nat) : Int), ()) ∧ Keep (fun b => L ≤ b) G p.2 ∧ ∃ a' many' v' w', Ply L N T c r (i + 1) p.2 a' many' now' o' v' w' := by
  obtain ⟨b1, o1, e1, e2⟩ := row_act hr hi
  have e3 := (e2 hr).2
  have hGl := get_lt h.bN
  have hGT := get_lt h.bT
  have hGc := get_lt h.m.c
  have k1 := Keep.app (fun _ => False) G [actB rows[i].2]
  have e4 := (e2 (hr.keep k1 fun _ _ _ hf => hf)).1
  have hP := h.keep k1
  have tB : (G ++ [actB rows[i].2])[G.length]? = some (actB rows[i].2) := by rw [tl_get0]; rfl
  have tR1 := k1.get tR fun hf => hf
  have hw := wrap_succ (show i < 9223372036854775807 by omega)
  have hwr : wr (G ++ [Blk.cells [.int .i64 0, .int .i64 0, .int .i64 0, .int .i64 0, .int .i64 0, .int .i64 0, .str []] .exact]) G.length 0 [.int .i64 rows[i].2.1, .int .i64 rows[i].2.2.1, .int .i64 rows[i].2.2.2.1, .int .i64 rows[i].2.2.2.2.1, .int .i64 rows[i].2.2.2.2.2.1, .int .i64 rows[i].2.2.2.2.2.2.1, .str rows[i].2.2.2.2.2.2.2.1] = some (G ++ [actB rows[i].2]) := by
    rw [wr_t0, wr_c0 _ _ _ _ (by simp)]; rfl
  generalize rows[i] = x at e3 e4 k1 hP tB hwr tR1
  unfold law19_ModelPlays.s1
  refine wp_t (decide_eq_true (by rw [hlen]; exact Int.ofNat_lt.2 hi)) (wp_t (decide_eq_true (by simp only; omega)) (wp_to e1 (wp_to e3 (wp_to hwr ?_))))
  refine wp_seq (ActQ L N T c r (i + 1) (G ++ [actB x.2]) (actM now o x r 64)) ?_ ?_
  · refine wp_to e1 (wp_to e4 (wp_if (p := x.1 = 0) rfl (fun k0 => ?_) (fun k0 => ?_)))
    · exact act_begin hP hN hT (by unfold actM; rw [if_pos k0]; cases o <;> rfl)
    · refine wp_seq (fun p => p = ((decide (x.1 = 1 ∨ x.1 = 2), ()), G ++ [actB x.2])) ?_ ?_
      · refine wp_if (p := x.1 = 1) rfl (fun q1 => wp_some ?_) (fun q1 => wp_some ?_)
        · rw [decide_eq_true q1, decide_eq_true (.inl q1)]
        · by_cases q2 : x.1 = 2
          · rw [decide_eq_true q2, decide_eq_true (.inr q2)]
          · rw [decide_eq_false q2, decide_eq_false (fun hh => hh.elim q1 q2)]
      rintro _ rfl
      refine wp_if (p := x.1 = 1 ∨ x.1 = 2) rfl (fun q => ?_) (fun q => ?_)
      · exact act_commit hP hN hT (by unfold actM; rw [if_neg k0, if_pos q]; cases o <;> rfl)
      · refine wp_if (p := x.1 = 3) rfl (fun q3 => ?_) (fun q3 => ?_)
        · exact act_abort hP (by unfold actM; rw [if_neg k0, if_neg q, if_pos q3]; cases o <;> rfl)
        · have hm : actM now o x r 64 = chgM now o x r := by unfold actM chgM; rw [if_neg k0, if_neg q, if_neg q3]
          rw [hm]
          exact act_change hP hT (B := G.length) rfl ⟨by omega, by omega, by omega⟩ tB tR1 hRL (by omega)
  rintro ⟨⟨op, wa, go, ⟨⟩⟩, K⟩ ⟨hp, hk, a', many', v', w', hP'⟩
  generalize actM now o x r 64 = m at hp hP'
  obtain ⟨e, now', o'⟩ := m
  have hp : (op, wa, go, ()) = (o'.isSome, e, e, ()) := hp
  cases hp
  have hP' : Ply L N T c r (i + 1) K a' many' now' o' v' w' := hP'
  have hk : Keep (fun b => L ≤ b) (G ++ [actB x.2]) K := hk
  rw [hN, hT]
  refine wp_to (rd5 hP'.bN) (wp_box5 ?_)
  have k2 := Keep.app (fun _ => False) K [.cells (v5C v') .exact]
  have hP2 := hP'.keep k2
  have t2 : (K ++ [Blk.cells (v5C v') .exact])[K.length]? = some (.cells (v5C v') .exact) := by rw [tl_get0]; rfl
  refine wp_seq (fun p => ∃ u, P5At p.2 u (seeP now' o') ∧ p.2[K.length]? = some (.cells (v5C u) .exact) ∧ Ply L N T c r (i + 1) p.2 a' many' now' o' v' w' ∧ Keep (fun _ => False) K p.2) ?_ ?_
  · cases o' with
    | none => exact wp_f rfl (wp_some ⟨v', hP2.pv, t2, hP2, k2⟩)
    | some t =>
      have kw : Keep (fun b => b = K.length) (K ++ [Blk.cells (v5C v') .exact]) ((K ++ [Blk.cells (v5C v') .exact]).set K.length (.cells (v5C (p5 w')) .exact)) := Keep.set _ _ _ rfl
      refine wp_t rfl (wp_to (rd65 hP2.bT) (wp_to (wr5 t2 rfl (p5 w')) (wp_some ⟨p5 w', ?_, set_get (get_lt t2), ?_, ?_⟩)))
      · have h1 := (hP'.pw t rfl).p
        exact ((h1.keep k2 fun _ _ hf => hf).keep kw fun b hb e => by have := h1.lt hb; omega)
      · have h1 := hP'.pw t rfl
        have g1 := get_lt hP'.bN
        have g2 := get_lt hP'.bT
        have g3 := get_lt hP'.m.c
        exact ⟨hP2.m.other (by omega) t2 kw, hP2.pv.keep kw fun b hb e => by have := hP'.pv.lt hb; omega, kw.get hP2.bN (by omega), kw.get hP2.bT (by omega), fun t' ht => by cases ht; exact ((hP2.pw t rfl).keep kw fun b hb e => by have := h1.p.lt hb; omega), hP'.ne, hP'.lo, hP'.ov, hP'.ow, hP'.n, hP'.ln, hP'.lt⟩
      · refine ⟨by simp only [List.length_set, List.length_append]; omega, fun b hb _ => ?_⟩
        show ((K ++ _).set K.length _)[b]? = _
        rw [set_get' (by omega)]
        exact List.getElem?_append_left hb
  rintro ⟨⟨⟩, K2⟩ ⟨u, hu, tu, hP3, k3⟩
  have k3 : Keep (fun _ => False) K K2 := k3
  refine wp_f (by simp) (wp_to (rd5 tu) ?_)
  refine wp_seq _ (law19_same_eq hP3.m hu ?_) ?_
  · cases o' with
    | none => have := hP3.ln; show now'.tx.length ≤ _; omega
    | some t => have := hP3.lt t rfl; show t.p.tx.length ≤ _; omega
  rintro ⟨⟨bb, ⟨⟩⟩, K3⟩ ⟨hb, k4⟩
  have hb : bb = true := hb
  subst hb
  have k4 : Keep (fun _ => False) K2 K3 := k4
  refine wp_f rfl (wp_some ⟨now', o', ?_, ?_, a', many', v', w', hP3.keep k4⟩)
  · simp only [hw]
  · exact (((k1.mono fun _ hf => hf.elim).trans hk).trans (k3.mono fun _ hf => hf.elim)).trans (k4.mono fun _ hf => hf.elim)
theorem ModelPlays_true (s : Sl) (n : Int) {H : Heap} (hc : Came ctA [] s H) (_ : wfC (.int .i64 n)) : ∃ H', law19_ModelPlays s n H = some ((true, ()), H') := by
  obtain ⟨rows, hr, hlen, _, _⟩ := came_rows hc
  have hr : Row H 8 s (rowsOf ctA rows) := hr
  have hlow : ∀ b o, s.p = some (b, o) → b < H.length := fun b o hp => hr.lt hp
  apply wp_ex19
  obtain ⟨r, hroom⟩ := room_some n
  unfold law19_ModelPlays
  have hw0 : wr (H ++ [Blk.cells [.int .i64 0, .int .i64 0, .int .i64 0, .int .i64 0] .exact]) H.length 0 [.int .i64 r.1, .int .i64 r.2.1, .int .i64 r.2.2.1, .int .i64 r.2.2.2.1] = some (H ++ [.cells [.int .i64 r.1, .int .i64 r.2.1, .int .i64 r.2.2.1, .int .i64 r.2.2.2.1] .exact]) := by
    rw [wr_t0, wr_c0 _ _ _ _ (by simp)]; rfl
  have k0 := Keep.app (fun _ => False) H [.cells [.int .i64 r.1, .int .i64 r.2.1, .int .i64 r.2.2.1, .int .i64 r.2.2.2.1] .exact]
  have t0 : (H ++ [Blk.cells [.int .i64 r.1, .int .i64 r.2.1, .int .i64 r.2.2.1, .int .i64 r.2.2.2.1] .exact])[H.length]? = some (.cells [.int .i64 r.1, .int .i64 r.2.1, .int .i64 r.2.2.1, .int .i64 r.2.2.2.1] .exact) := by rw [tl_get0]; rfl
  have hrd : rd (H ++ [Blk.cells [.int .i64 r.1, .int .i64 r.2.1, .int .i64 r.2.2.1, .int .i64 r.2.2.2.1] .exact]) (.agg [.int .i64, .int .i64, .int .i64, .int .i64]) H.length 0 = (some r : Option RoomT) := rd_agg_of t0 (by simp) (by obtain ⟨r1, r2, r3, r4, ⟨⟩⟩ := r; rfl)
  have l0 : (H ++ [Blk.cells [.int .i64 r.1, .int .i64 r.2.1, .int .i64 r.2.2.1, .int .i64 r.2.2.2.1] .exact]).length = H.length + 1 := by simp
  refine wp_to hroom (wp_to hw0 (wp_to hrd ?_))
  generalize H ++ [Blk.cells [.int .i64 r.1, .int .i64 r.2.1, .int .i64 r.2.2.1, .int .i64 r.2.2.2.1] .exact] = H3 at k0 t0 l0 ⊢
  obtain ⟨c, G5, n1, n2, n3, a, na, hM⟩ := md_New H3 r 64
  refine wp_to n1 ?_
  have k5 := Keep.app (fun _ => False) G5 [.cells (v5C (⟨none, 0, 0⟩, ⟨none, 0, 0⟩, ⟨none, 0, 0⟩, ⟨none, 0, 0⟩, ⟨none, 0, 0⟩, ())) .exact, .cells (v6C (⟨none, 0, 0⟩, ⟨none, 0, 0⟩, ⟨none, 0, 0⟩, ⟨none, 0, 0⟩, ⟨none, 0, 0⟩, 0, ())) .exact]
  have hw1 : wr (G5 ++ [Blk.cells [.sl 3 Sl.nil, .sl 3 Sl.nil, .sl 1 Sl.nil, .sl 2 Sl.nil, .sl 1 Sl.nil] .exact] ++ [Blk.cells [.sl 3 Sl.nil, .sl 3 Sl.nil, .sl 1 Sl.nil, .sl 2 Sl.nil, .sl 1 Sl.nil, .int .i64 0] .exact]) G5.length 0 [.sl 3 (⟨none, 0, 0⟩), .sl 3 (⟨none, 0, 0⟩), .sl 1 (⟨none, 0, 0⟩), .sl 2 (⟨none, 0, 0⟩), .sl 1 (⟨none, 0, 0⟩)] =
      some (G5 ++ [.cells (v5C (⟨none, 0, 0⟩, ⟨none, 0, 0⟩, ⟨none, 0, 0⟩, ⟨none, 0, 0⟩, ⟨none, 0, 0⟩, ())) .exact, .cells (v6C (⟨none, 0, 0⟩, ⟨none, 0, 0⟩, ⟨none, 0, 0⟩, ⟨none, 0, 0⟩, ⟨none, 0, 0⟩, 0, ())) .exact]) := by
    rw [List.append_assoc, wr_t0]
    show (wr [_, _] 0 0 _).map _ = _
    rw [wr_c0 _ _ _ _ (by simp)]; rfl
  have hw2 : wr (G5 ++ [Blk.cells (v5C (⟨none, 0, 0⟩, ⟨none, 0, 0⟩, ⟨none, 0, 0⟩, ⟨none, 0, 0⟩, ⟨none, 0, 0⟩, ())) .exact, .cells (v6C (⟨none, 0, 0⟩, ⟨none, 0, 0⟩, ⟨none, 0, 0⟩, ⟨none, 0, 0⟩, ⟨none, 0, 0⟩, 0, ())) .exact]) (G5 ++ [Blk.cells [.sl 3 Sl.nil, .sl 3 Sl.nil, .sl 1 Sl.nil, .sl 2 Sl.nil, .sl 1 Sl.nil] .exact]).length 0 [.sl 3 (⟨none, 0, 0⟩), .sl 3 (⟨none, 0, 0⟩), .sl 1 (⟨none, 0, 0⟩), .sl 2 (⟨none, 0, 0⟩), .sl 1 (⟨none, 0, 0⟩), .int .i64 0] =
      some (G5 ++ [.cells (v5C (⟨none, 0, 0⟩, ⟨none, 0, 0⟩, ⟨none, 0, 0⟩, ⟨none, 0, 0⟩, ⟨none, 0, 0⟩, ())) .exact, .cells (v6C (⟨none, 0, 0⟩, ⟨none, 0, 0⟩, ⟨none, 0, 0⟩, ⟨none, 0, 0⟩, ⟨none, 0, 0⟩, 0, ())) .exact]) := by
    rw [show (G5 ++ [Blk.cells [.sl 3 Sl.nil, .sl 3 Sl.nil, .sl 1 Sl.nil, .sl 2 Sl.nil, .sl 1 Sl.nil] .exact]).length = G5.length + 1 by simp, wr_t1]; rfl
  have hno : ∀ b, ¬ blk5 (⟨none, 0, 0⟩, ⟨none, 0, 0⟩, ⟨none, 0, 0⟩, ⟨none, 0, 0⟩, ⟨none, 0, 0⟩, ()) b := by
    rintro b ((⟨o, hh⟩ | ⟨o, hh⟩ | ⟨o, hh⟩ | ⟨o, hh⟩) | ⟨o, hh⟩) <;> cases hh
  have hcl := get_lt hM.c
  have hGl := n3.len
  have h0 : Ply (H.length + 1) G5.length (G5.length + 1) c r 0 (G5 ++ [.cells (v5C (⟨none, 0, 0⟩, ⟨none, 0, 0⟩, ⟨none, 0, 0⟩, ⟨none, 0, 0⟩, ⟨none, 0, 0⟩, ())) .exact, .cells (v6C (⟨none, 0, 0⟩, ⟨none, 0, 0⟩, ⟨none, 0, 0⟩, ⟨none, 0, 0⟩, ⟨none, 0, 0⟩, 0, ())) .exact]) a 0 ⟨⟨[], [], [], []⟩, []⟩ none (⟨none, 0, 0⟩, ⟨none, 0, 0⟩, ⟨none, 0, 0⟩, ⟨none, 0, 0⟩, ⟨none, 0, 0⟩, ()) (⟨none, 0, 0⟩, ⟨none, 0, 0⟩, ⟨none, 0, 0⟩, ⟨none, 0, 0⟩, ⟨none, 0, 0⟩, 0, ()) :=
    ⟨hM.keep k5, ⟨⟨hM.nw.w, ⟨rfl, fun _ => rfl⟩, ⟨rfl, fun _ => rfl⟩, ⟨rfl, fun _ => rfl⟩, ⟨rfl, fun _ => rfl⟩, rfl, rfl, rfl, rfl⟩, ⟨rfl, fun _ => rfl⟩, rfl⟩, by rw [tl_get0]; rfl, by rw [tl_get1]; rfl, fun t ht => (by cases ht), ⟨by omega, by omega, by omega⟩, ⟨by omega, by omega, by omega⟩, fun b hb => absurd hb (hno b), fun t ht => (by cases ht), by omega, Nat.zero_le _, fun t ht => (by cases ht)⟩
  have hrow : Row (G5 ++ [.cells (v5C (⟨none, 0, 0⟩, ⟨none, 0, 0⟩, ⟨none, 0, 0⟩, ⟨none, 0, 0⟩, ⟨none, 0, 0⟩, ())) .exact, .cells (v6C (⟨none, 0, 0⟩, ⟨none, 0, 0⟩, ⟨none, 0, 0⟩, ⟨none, 0, 0⟩, ⟨none, 0, 0⟩, 0, ())) .exact]) 8 s (rowsOf ctA rows) := hr.keep ((k0.trans n3).trans k5) fun _ _ _ hf => hf
  have tR := (n3.trans k5).get t0 fun hf => hf
  have hT : (G5 ++ [Blk.cells [.sl 3 Sl.nil, .sl 3 Sl.nil, .sl 1 Sl.nil, .sl 2 Sl.nil, .sl 1 Sl.nil] .exact]).length = G5.length + 1 := by simp
  refine wp_to hw1 (wp_to hw2 (wp_to awake19 (wp_f rfl ?_)))
  generalize G5 ++ [Blk.cells [.sl 3 Sl.nil, .sl 3 Sl.nil, .sl 1 Sl.nil, .sl 2 Sl.nil, .sl 1 Sl.nil] .exact] = G6 at hT ⊢
  refine wp_seq _ (wp_rise (step := law19_ModelPlays.s1 s H ((some (c, 0), ()), G5) G6) (min rows.length 100) (fun i (y : Bool × Int × Unit) G => ∃ now o, y = (o.isSome, (i : Int), ()) ∧ ∃ a many v w, Ply (H.length + 1) G5.length (G5.length + 1) c r i G a many now o v w ∧ Keep (fun b => H.length + 1 ≤ b) (G5 ++ [.cells (v5C (⟨none, 0, 0⟩, ⟨none, 0, 0⟩, ⟨none, 0, 0⟩, ⟨none, 0, 0⟩, ⟨none, 0, 0⟩, ())) .exact, .cells (v6C (⟨none, 0, 0⟩, ⟨none, 0, 0⟩, ⟨none, 0, 0⟩, ⟨none, 0, 0⟩, ⟨none, 0, 0⟩, 0, ())) .exact]) G)
    (fun (x : Unit ⊕ (Bool × Unit)) G => x = .inl ()) ?_ ?_ ⟨_, none, rfl, a, 0, _, _, h0, Keep.refl _ _⟩) ?_
  · rintro i y G hi ⟨now, o, rfl, a1, m1, v1, w1, hP, kG⟩
    have hir : i < List.length (α := ActT) rows := by show i < rows.length; omega
    refine wp_mono (plays19_round hP (rows := rows) (hrow.keep kG fun b o hp hh => by have := hlow b o hp; omega) hir hlen (by omega) rfl hT (kG.get tR (by omega)) (by omega)) ?_
    rintro ⟨x, G'⟩ ⟨now', o', rfl, kk, a2, m2, v2, w2, hP2⟩
    exact ⟨now', o', rfl, a2, m2, v2, w2, hP2, kG.trans kk⟩
  · rintro y G ⟨now, o, rfl, a1, m1, v1, w1, hP, kG⟩
    unfold law19_ModelPlays.s1
    by_cases hl : rows.length ≤ 100
    · rw [Nat.min_eq_left hl]
      exact wp_f (decide_eq_false (by rw [hlen]; exact Int.lt_irrefl _)) (wp_some rfl)
    · rw [Nat.min_eq_right (by omega)]
      exact wp_t (decide_eq_true (by rw [hlen]; exact Int.ofNat_lt.2 (by omega))) (wp_f rfl (wp_some rfl))
  · rintro ⟨x, G⟩ hx
    have hx : x = .inl () := hx
    subst hx
    exact wp_some rfl
end
end Ev

namespace Ev
open Go (IntKind)

end Ev

