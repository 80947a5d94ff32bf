/- What the law leans on: texts of this claim, put together. -/
import Derived.Test.YtfmefnejaocopaaEvCore
import Derived.Test.YtfmefnejaocopaaEvLoop
import Derived.Test.YtfmefnejaocopaaEvOpen
import Derived.Test.YtfmefnejaocopaaGRec
import Derived.Test.YtfmefnejaocopaaGRef07
import Derived.Test.YtfmefnejaocopaaGRef08
import Derived.Test.YtfmefnejaocopaaGModel
import Derived.Test.YtfmefnejaocopaaGRef16
import Derived.Test.YtfmefnejaocopaaGLaw17
import Derived.Test.YtfmefnejaocopaaGLaw19
import Derived.Test.YtfmefnejaocopaaR19ca
set_option linter.unusedSimpArgs false
set_option linter.unusedVariables false
namespace Ev
open Go (IntKind)

abbrev ctF : List CT := [.int .i64, .int .i64, .str]
def leafR (q : Pln) (x : Int × Int) : Tup ctF := (x.1 / 1024, x.1 % 1024, txtP q x.2, ())
def infR (st : Sta) (x : Int × Int × Bool) : Tup ctI := spI st x.1
def leafS (q : Pln) (id : Int) (y : Int × Int) : Tup ctF := (id, y.1, txtP q y.2, ())
theorem asc_mem {α : Type} {l l' : List (Int × α)} (h : Asc l) (h' : Asc l') (e : ∀ x, x ∈ l ↔ x ∈ l') : l = l' :=
  asc_ext h h' fun k => by
    cases hf : afind l k with
    | some v => exact (h'.find ((e _).1 (afind_mem hf))).symm
    | none =>
      cases hg : afind l' k with
      | none => rfl
      | some v => rw [h.find ((e _).2 (afind_mem hg))] at hf; cases hf
theorem flat_snoc3 {α β : Type} (f : α → List β) (l : List α) (x : α) : ((l ++ [x]).map f).flatten = (l.map f).flatten ++ f x := by simp
theorem rowsOf_append3 {cts : List CT} (l l' : List (Tup cts)) : rowsOf cts (l ++ l') = rowsOf cts l ++ rowsOf cts l' := by simp [rowsOf]
theorem lv_spaces {st : Sta} (w : SaW st) : (st.sp.map fun x => (pgs st.lv x.1).map fun y => (x.1 * 1024 + y.1, y.2)).flatten = st.lv := by
  refine asc_mem ?_ w.lv fun x => ?_
  · unfold Asc
    rw [List.pairwise_flatten]
    refine ⟨fun l hl => ?_, ?_⟩
    · obtain ⟨x, hx, rfl⟩ := List.mem_map.1 hl
      rw [List.pairwise_map]
      exact (pgs_asc w.lv x.1).imp fun {a b} hab => by show x.1 * 1024 + a.1 < x.1 * 1024 + b.1; omega
    · rw [List.pairwise_map]
      refine w.sp.imp fun {a b} hab x hx y hy => ?_
      obtain ⟨p, hp, rfl⟩ := List.mem_map.1 hx
      obtain ⟨q, hq, rfl⟩ := List.mem_map.1 hy
      have h1 := pgs_mem hp
      have h2 := pgs_mem hq
      show a.1 * 1024 + p.1 < b.1 * 1024 + q.1
      omega
  · rw [List.mem_flatten]
    constructor
    · rintro ⟨l, hl, hx⟩
      obtain ⟨y, hy, rfl⟩ := List.mem_map.1 hl
      obtain ⟨p, hp, rfl⟩ := List.mem_map.1 hx
      exact (pgs_mem hp).2.2
    · intro hx
      obtain ⟨y, hy⟩ := Option.isSome_iff_exists.1 (w.own x hx)
      refine ⟨_, List.mem_map.2 ⟨_, afind_mem hy, rfl⟩, List.mem_map.2 ⟨(x.1 % 1024, x.2), ?_, ?_⟩⟩
      · refine afind_mem ?_
        rw [pgs_find w.lv, if_pos (by omega), show x.1 / 1024 * 1024 + x.1 % 1024 = x.1 by omega]
        exact w.lv.find hx
      · show (x.1 / 1024 * 1024 + x.1 % 1024, x.2) = x
        rw [show x.1 / 1024 * 1024 + x.1 % 1024 = x.1 by omega]
theorem leaf_rows {q : Pln} (w : SaW q.st) : (q.st.sp.map fun x => (pgs q.st.lv x.1).map (leafS q x.1)).flatten = q.st.lv.map (leafR q) := by
  have h := congrArg (List.map (leafR q)) (lv_spaces w)
  rw [← h, List.map_flatten, List.map_map]
  congr 1
  refine List.map_congr_left fun x _ => ?_
  show _ = ((pgs q.st.lv x.1).map fun y => (x.1 * 1024 + y.1, y.2)).map (leafR q)
  rw [List.map_map]
  refine List.map_congr_left fun y hy => ?_
  have := pgs_mem hy
  show (x.1, y.1, txtP q y.2, ()) = ((x.1 * 1024 + y.1) / 1024, (x.1 * 1024 + y.1) % 1024, txtP q y.2, ())
  rw [(key_div x.1 y.1 this.1 this.2.1).1, (key_div x.1 y.1 this.1 this.2.1).2]
section
variable {H G : Heap} {c : Nat} {a : MdA} {r : RoomT} {size many : Int} {now : Pln} {o : Option Tx} {t : Tx}
theorem md_Spaces (h : MdAt H c a r size many now o) : WP (model_Model_Spaces (some (c, 0)) H) fun y => ∃ s, y.1 = (s, ()) ∧ Row y.2 4 s (rowsOf ctI (infos (seeP now o).st)) ∧ s.len = (seeP now o).st.sp.length ∧ Keep (fun _ => False) H y.2 := by
  obtain ⟨m, pg, e1, e2, e3⟩ := md_see h
  obtain ⟨ks, K, f1, f2, f3, f4, f5, f6⟩ := e2.sp.sorted (sp_keys e2.w).1 (sp_keys e2.w).2
  generalize seeP now o = q at e2 e3 f1 f2 f3 ⊢
  have hK : TrAt K m pg a.f q.st := e2.keep f6 fun _ _ hf => hf
  have hrow : Row K 1 ks (intC (q.st.sp.map Prod.fst)) := ⟨f2, f4⟩
  have hll : (q.st.sp.map Prod.fst).length = q.st.sp.length := List.length_map _
  have hfew := e2.w.few
  unfold model_Model_Spaces
  refine wp_to e1 (wp_to (v := (((some (H.length, 0), ()), ()), H ++ [.cells [.mp (some m)] .exact])) rfl (wp_to f1 ?_))
  refine wp_seq _ (wp_rise (step := model_Model_Spaces.s1 ((some m, ()), H) ((ks, ()), K)) q.st.sp.length (fun i (y : Sl × Int × Unit) G => ∃ s, y = (s, (i : Int), ()) ∧ Em K ⟨none, 0, 0⟩ 4 G s (rowsOf ctI ((q.st.sp.take i).map (infR q.st))) ∧ s.len = i)
    (fun (y : Sl × Unit) G => ∃ s, y = (s, ()) ∧ Em K ⟨none, 0, 0⟩ 4 G s (rowsOf ctI (infos q.st)) ∧ s.len = q.st.sp.length) ?_ ?_ ⟨_, rfl, Em.start (Grown.ni K 4), rfl⟩) ?_
  · rintro i y G hi ⟨s, rfl, hE, hn⟩
    have hkk := hE.calm rfl
    have hG : TrAt G m pg a.f q.st := hK.keep hkk fun _ _ hf => hf
    obtain ⟨b0, o0, _, r1, r2⟩ := (hrow.keep hkk fun _ _ _ hf => hf).int (i := i) (by omega)
    have hx : (q.st.sp.map Prod.fst)[i]'(by omega) = q.st.sp[i].1 := List.getElem_map _
    rw [hx] at r2
    have hf : afind q.st.sp q.st.sp[i].1 = some q.st.sp[i].2 := e2.w.sp.find (List.getElem_mem hi)
    have hsp : infR q.st q.st.sp[i] = _ := spI_at q.st hf
    have hm := hG.sp.space q.st.sp[i].1
    rw [hf] at hm
    rw [take_snoc hi, List.map_append]
    have hpp := hG.pp _ _ hf
    generalize q.st.sp[i] = z at r2 hf hsp hm hpp ⊢
    obtain ⟨id, qq, b⟩ := z
    have hw := wrap_succ (show i < 9223372036854775807 by omega)
    have k1 := Keep.app (fun _ => False) G [.cells [.int .i64 qq, .bool b, .mp (some (pg id))] .exact]
    have t1 : (G ++ [Blk.cells [.int .i64 qq, .bool b, .mp (some (pg id))] .exact])[G.length]? = some (.cells [.int .i64 qq, .bool b, .mp (some (pg id))] .exact) := by rw [tl_get0]; rfl
    unfold model_Model_Spaces.s1
    refine wp_t (decide_eq_true (by rw [f3]; exact Int.ofNat_lt.2 hi)) (wp_to r1 (wp_to r2 (wp_to hm (wp_tmpS ?_))))
    refine wp_to (rdI_of t1 (n := qq) rfl) (wp_to (rdM_of t1 (n := some (pg id)) rfl) (wp_to (hpp.keep k1 fun hf => hf).len (wp_to (rdB_of t1 (n := b) rfl) ?_)))
    refine wp_app (hE.push _) rfl (by decide) (by omega) fun s' G' hE' hn' => wp_some ⟨s', ?_, ?_, by rw [hn', hn]⟩
    · simp only [hw]
    · have e5 : Tup.mk ctI (infR q.st (id, qq, b)) = Tup.mk ctI (id, qq, ((pgs q.st.lv id).length : Int), b, ()) := congrArg (Tup.mk ctI) hsp
      rw [List.map_cons, List.map_nil, rowsOf_append3]
      show Em K _ 4 _ _ (_ ++ (Tup.mk ctI (infR q.st (id, qq, b)) ++ []))
      rw [e5, List.append_nil]
      exact hE'
  · rintro y G ⟨s, rfl, hE, hn⟩
    rw [List.take_length] at hE
    unfold model_Model_Spaces.s1
    exact wp_f (decide_eq_false (by rw [f3]; exact Int.lt_irrefl _)) (wp_some ⟨s, rfl, hE, hn⟩)
  · rintro ⟨⟨s, ⟨⟩⟩, G⟩ ⟨s', hs, hE, hn⟩
    cases hs
    exact wp_some ⟨s, rfl, Row.grown hE.g, hn, f6.trans (hE.calm rfl)⟩
theorem leaves_inner {K : Heap} {m : Nat} {pg : Int → Nat} {f : LfF} {q : Pln} {n : Nat} (hK : TrAt K m pg f q.st) (hq : PlOK q f n) {id : Int} {x : Int × Bool} (hx : afind q.st.sp id = some x) {ks : Sl} (hrow : Row K 1 ks (intC ((pgs q.st.lv id).map Prod.fst))) (hkl : ks.len = (pgs q.st.lv id).length) {s0 : Sl} {cs : List C} (hg : Grown K 3 s0 cs)
    (hk0 : ∀ b o o', ks.p = some (b, o) → s0.p ≠ some (b, o')) (hn0 : s0.len ≤ 20000) {G0 G1 : Heap} :
    WP (loopW (model_Model_Leaves.s1 ((some m, ()), G0) id ((ks, ()), G1)) (s0, 0, ()) K) fun y => ∃ s, y.1 = (s, ()) ∧ Em K s0 3 y.2 s (cs ++ rowsOf ctF ((pgs q.st.lv id).map (leafS q id))) ∧ s.len = s0.len + (pgs q.st.lv id).length := by
  have hll : ((pgs q.st.lv id).map Prod.fst).length = (pgs q.st.lv id).length := List.length_map _
  have hpl := hK.w.pgl id
  have hP := pgs_asc hK.w.lv id
  have hso : ∀ b, trF m pg q.st b → ¬ ∃ o, s0.p = some (b, o) := fun b hb ⟨o, ho⟩ => by
    rcases (hg.blk _ ho).2 with hh | hh
    · exact hK.ne hh b hb rfl
    · exact hK.ne hh b hb rfl
  refine wp_mono (wp_rise (step := model_Model_Leaves.s1 ((some m, ()), G0) id ((ks, ()), G1)) (pgs q.st.lv id).length (fun i (y : Sl × Int × Unit) G => ∃ s, y = (s, (i : Int), ()) ∧ Em K s0 3 G s (cs ++ rowsOf ctF (((pgs q.st.lv id).take i).map (leafS q id))) ∧ s.len = s0.len + i)
    (fun (y : Sl × Unit) G => ∃ s, y = (s, ()) ∧ Em K s0 3 G s (cs ++ rowsOf ctF ((pgs q.st.lv id).map (leafS q id))) ∧ s.len = s0.len + (pgs q.st.lv id).length) ?_ ?_ ⟨_, rfl, by simpa [rowsOf] using Em.start hg, rfl⟩) fun y hy => hy
  · rintro i y G hi ⟨s, rfl, hE, hn⟩
    have hG : TrAt G m pg f q.st := hK.keep hE.k hso
    obtain ⟨b0, o0, _, r1, r2⟩ := (hE.row hrow hk0).int (i := i) (by omega)
    have hxx : ((pgs q.st.lv id).map Prod.fst)[i]'(by omega) = (pgs q.st.lv id)[i].1 := List.getElem_map _
    rw [hxx] at r2
    have hf : afind (pgs q.st.lv id) (pgs q.st.lv id)[i].1 = some (pgs q.st.lv id)[i].2 := hP.find (List.getElem_mem hi)
    have htxt := hq.txt (x := (id * 1024 + (pgs q.st.lv id)[i].1, (pgs q.st.lv id)[i].2)) (pgs_mem (List.getElem_mem hi)).2.2
    have hm := hG.sp.space id
    rw [hx] at hm
    have hlf := (hG.pp id x hx).leaf (pgs q.st.lv id)[i].1
    rw [hf] at hlf
    rw [take_snoc hi, List.map_append]
    generalize (pgs q.st.lv id)[i] = z at r2 htxt hlf ⊢
    have hw := wrap_succ (show i < 9223372036854775807 by omega)
    unfold model_Model_Leaves.s1
    refine wp_t (decide_eq_true (by rw [hkl]; exact Int.ofNat_lt.2 hi)) (wp_to r1 (wp_to r2 (wp_to hm (wp_to hlf ?_))))
    refine wp_app hE rfl (by decide) (by omega) fun s' G' hE' hn' => wp_some ⟨s', ?_, ?_, by rw [hn', hn]; omega⟩
    · simp only [hw]
    · rw [List.map_cons, List.map_nil, rowsOf_append3, ← List.append_assoc]
      have e : leafS q id z = (id, z.1, (f z.2).1, ()) := by rw [htxt]; rfl
      rw [e]
      exact hE'
  · rintro y G ⟨s, rfl, hE, hn⟩
    rw [List.take_length] at hE
    unfold model_Model_Leaves.s1
    exact wp_f (decide_eq_false (by rw [hkl]; exact Int.lt_irrefl _)) (wp_some ⟨s, rfl, hE, hn⟩)
theorem md_Leaves (h : MdAt H c a r size many now o) : WP (model_Model_Leaves (some (c, 0)) H) fun y => ∃ s, y.1 = (s, ()) ∧ Row y.2 3 s (rowsOf ctF ((seeP now o).st.lv.map (leafR (seeP now o)))) ∧ s.len = (seeP now o).st.lv.length ∧ Keep (fun _ => False) H y.2 := by
  obtain ⟨m, pg, e1, e2, e3⟩ := md_see h
  obtain ⟨ks, K, f1, f2, f3, f4, f5, f6⟩ := e2.sp.sorted (sp_keys e2.w).1 (sp_keys e2.w).2
  generalize seeP now o = q at e2 e3 f1 f2 f3 ⊢
  have hK : TrAt K m pg a.f q.st := e2.keep f6 fun _ _ hf => hf
  have hrow : Row K 1 ks (intC (q.st.sp.map Prod.fst)) := ⟨f2, f4⟩
  have hll : (q.st.sp.map Prod.fst).length = q.st.sp.length := List.length_map _
  have hfew := e2.w.few
  have hlen : ∀ i, ((q.st.sp.take i).map fun x => (pgs q.st.lv x.1).map (leafS q x.1)).flatten.length ≤ 15360 := fun i => by
    have h1 := congrArg List.length (leaf_rows e2.w)
    rw [List.length_map] at h1
    have h2 := e2.w.many
    have h3 : ((q.st.sp.take i).map fun x => (pgs q.st.lv x.1).map (leafS q x.1)).flatten.length ≤ (q.st.sp.map fun x => (pgs q.st.lv x.1).map (leafS q x.1)).flatten.length := by
      rw [List.map_take, List.length_flatten, List.length_flatten, List.map_take]
      exact sum_take_le _ i
    omega
  unfold model_Model_Leaves
  refine wp_to e1 (wp_to (v := (((some (H.length, 0), ()), ()), H ++ [.cells [.mp (some m)] .exact])) rfl (wp_to f1 ?_))
  refine wp_seq _ (wp_rise (step := model_Model_Leaves.s2 ((some m, ()), H) ((ks, ()), K)) q.st.sp.length (fun i (y : Sl × Int × Unit) G => ∃ s, y = (s, (i : Int), ()) ∧ Em K ⟨none, 0, 0⟩ 3 G s (rowsOf ctF (((q.st.sp.take i).map fun x => (pgs q.st.lv x.1).map (leafS q x.1)).flatten)) ∧ s.len = ((q.st.sp.take i).map fun x => (pgs q.st.lv x.1).map (leafS q x.1)).flatten.length)
    (fun (y : Sl × Unit) G => ∃ s, y = (s, ()) ∧ Em K ⟨none, 0, 0⟩ 3 G s (rowsOf ctF (q.st.lv.map (leafR q))) ∧ s.len = q.st.lv.length) ?_ ?_ ⟨_, rfl, Em.start (Grown.ni K 3), rfl⟩) ?_
  · rintro i y G hi ⟨s, rfl, hE, hn⟩
    have hkk := hE.calm rfl
    have hG : TrAt G m pg a.f q.st := hK.keep hkk fun _ _ hf => hf
    obtain ⟨b0, o0, _, r1, r2⟩ := (hrow.keep hkk fun _ _ _ hf => hf).int (i := i) (by omega)
    have hx : (q.st.sp.map Prod.fst)[i]'(by omega) = q.st.sp[i].1 := List.getElem_map _
    rw [hx] at r2
    have hf : afind q.st.sp q.st.sp[i].1 = some q.st.sp[i].2 := e2.w.sp.find (List.getElem_mem hi)
    have hm := hG.sp.space q.st.sp[i].1
    rw [hf] at hm
    have hli := hlen i
    rw [take_snoc hi, flat_snoc3]
    have hpp := hG.pp _ _ hf
    have hpl := e2.w.pgl q.st.sp[i].1
    generalize q.st.sp[i] = z at r2 hf hm hpp hpl ⊢
    obtain ⟨id, x⟩ := z
    have hpp : MpA G (pg id) (lfW a.f) (pgs q.st.lv id) := hpp
    have hw := wrap_succ (show i < 9223372036854775807 by omega)
    obtain ⟨k2, K2, g1, g2, g3, g4, g5, g6⟩ := hpp.sorted (by have hpl : (pgs q.st.lv id).length ≤ 1024 := hpl; omega) (fun y hy => by have := pgs_mem hy; omega)
    have hE2 := hE.keep g6 fun _ hf => hf.elim
    unfold model_Model_Leaves.s2
    refine wp_t (decide_eq_true (by rw [f3]; exact Int.ofNat_lt.2 hi)) (wp_to r1 (wp_to r2 (wp_to hm (wp_to (v := (((some (G.length, 0), ()), ()), G ++ [.cells [.mp (some (pg id))] .exact])) rfl (wp_to g1 ?_)))))
    refine wp_seq _ (leaves_inner (hG.keep g6 fun _ _ hf => hf) e3 hf (⟨g2, g4⟩ : Row K2 1 k2 (intC ((pgs q.st.lv id).map Prod.fst))) g3 hE2.g (fun b o o' hp hp' => by
      have h1 := g5 _ hp
      have h2 := hE.g.lt hp'
      simp only at h1 h2
      omega) (by omega)) ?_
    rintro ⟨⟨s2, ⟨⟩⟩, G2⟩ ⟨s', hs, hE3, hn3⟩
    cases hs
    have hn3 : s2.len = s.len + (pgs q.st.lv id).length := hn3
    refine wp_some ⟨s2, ?_, ?_, ?_⟩
    · simp only [hw]
    · rw [rowsOf_append3]; exact hE2.then hE3
    · rw [List.length_append, List.length_map, hn3, hn]
  · rintro y G ⟨s, rfl, hE, hn⟩
    rw [List.take_length, leaf_rows e2.w] at hE hn
    rw [List.length_map] at hn
    unfold model_Model_Leaves.s2
    exact wp_f (decide_eq_false (by rw [f3]; exact Int.lt_irrefl _)) (wp_some ⟨s, rfl, hE, hn⟩)
  · rintro ⟨⟨s, ⟨⟩⟩, G⟩ ⟨s', hs, hE, hn⟩
    cases hs
    exact wp_some ⟨s, rfl, Row.grown hE.g, hn, f6.trans (hE.calm rfl)⟩
end
end Ev

namespace Ev
open Go (IntKind)

abbrev P5 := Sl × Sl × Sl × Sl × Sl × Unit
abbrev P6 := Sl × Sl × Sl × Sl × Sl × Int × Unit
end Ev

namespace Ev
open Go (IntKind)

end Ev

namespace Ev
open Go (IntKind)

end Ev

namespace Ev
open Go (IntKind)

end Ev

namespace Ev
open Go (IntKind)

end Ev

namespace Ev
open Go (IntKind)

theorem room9 : law19_room 9 = some ((10, 20, 0, 0, ()), ()) := by
  unfold law19_room law19_room.on
  rfl
def aw1 : Tx := ((Tx.mk ⟨⟨[], [], [], []⟩, []⟩ 0).doS (4, 1, 0, 0, 0, 4, ()) (10, 20, 0, 0, ())).2
def aw2 : Tx := (aw1.putS 1 0 [116, 101, 120, 116] (10, 20, 0, 0, ()) 64).2
theorem awake19 : law19_awake = some (true, ()) := by
  have key : WP (law19_awake.on []) fun x => x.1 = true := by
    unfold law19_awake.on
    obtain ⟨c, G, n1, _, _, a, na, hM⟩ := md_New [] (10, 20, 0, 0, ()) 64
    refine wp_to room9 (wp_to n1 (wp_seq _ (md_Begin hM) ?_))
    rintro ⟨⟨e1, ⟨⟩⟩, G1⟩ ⟨_, q1, a1, na1, hM1⟩
    have q1 : e1 = 0 := q1
    subst q1
    refine wp_seq _ (md_Do hM1 (4, 1, 0, 0, 0, 4, ())) ?_
    rintro ⟨⟨e2, ⟨⟩⟩, G2⟩ ⟨_, q2, a2, m2, na2, hM2⟩
    have q2 : e2 = 0 := q2
    subst q2
    have hM2 : MdAt G2 c a2 (10, 20, 0, 0, ()) 64 m2 ⟨⟨[], [], [], []⟩, []⟩ (some aw1) := hM2
    refine wp_seq _ (md_Put hM2 1 0 [116, 101, 120, 116] (by omega)) ?_
    rintro ⟨⟨e3, ⟨⟩⟩, G3⟩ ⟨_, q3, a3, m3, na3, hM3⟩
    have q3 : e3 = 0 := q3
    subst q3
    have hM3 : MdAt G3 c a3 (10, 20, 0, 0, ()) 64 m3 ⟨⟨[], [], [], []⟩, []⟩ (some aw2) := hM3
    refine wp_seq (fun x => x.1.1 = 0 ∧ ∃ a' m', MdAt x.2 c a' (10, 20, 0, 0, ()) 64 m' aw2.p none) ?_ ?_
    · unfold model_Model_Commit
      refine wp_seq _ (md_end hM3 true) ?_
      rintro ⟨⟨e4, ⟨⟩⟩, G4⟩ ⟨_, q4, a4, _, hM4⟩
      exact wp_some ⟨q4, a4, _, hM4⟩
    rintro ⟨⟨e4, ⟨⟩⟩, G4⟩ ⟨q4, a4, m4, hM4⟩
    have q4 : e4 = 0 := q4
    subst q4
    have hM4 : MdAt G4 c a4 (10, 20, 0, 0, ()) 64 m4 aw2.p none := hM4
    refine wp_seq _ (md_Get hM4 1 0) ?_
    rintro ⟨⟨tx, e5, ⟨⟩⟩, G5⟩ ⟨k5, q5⟩
    have q5 : (tx, e5, ()) = (([116, 101, 120, 116] : Bytes), (0 : Int), ()) := q5
    cases q5
    have hM5 := hM4.keep k5
    refine wp_t rfl (wp_t rfl (wp_t rfl (wp_t rfl (wp_t rfl (wp_t (decide_eq_true rfl) (wp_seq _ (md_Leaves hM5) ?_))))))
    rintro ⟨⟨s6, ⟨⟩⟩, G6⟩ ⟨s', hs, _, l6, k6⟩
    cases hs
    have l6 : s6.len = 1 := l6
    refine wp_t (by simp [l6]) (wp_seq _ (md_Spaces (hM5.keep k6)) ?_)
    rintro ⟨⟨s7, ⟨⟩⟩, G7⟩ ⟨s', hs, _, l7, _⟩
    cases hs
    have l7 : s7.len = 1 := l7
    exact wp_some (by simp [l7])
  obtain ⟨⟨b, ⟨⟩⟩, e1, e2⟩ := key
  have e2 : b = true := e2
  subst e2
  exact e1
end Ev

namespace Ev
open Go (IntKind)

abbrev ctA : List CT := [.int .i64, .int .i64, .int .i64, .int .i64, .int .i64, .int .i64, .int .i64, .str]
abbrev ActT := Int × Int × Int × Int × Int × Int × Int × Bytes × Unit
/-- An act's record; what a page is to say. -/
def actR (x : ActT) : RecT := (x.2.1, x.2.2.1, x.2.2.2.1, x.2.2.2.2.1, x.2.2.2.2.2.1, x.2.2.2.2.2.2.1, ())
def actS (x : ActT) : Bytes := x.2.2.2.2.2.2.2.1
/-- What an act does; what is told. -/
def actM (now : Pln) (o : Option Tx) (x : ActT) (r : RoomT) (size : Int) : Int × Pln × Option Tx :=
  if x.1 = 0 then (match o with | none => (0, now, some ⟨now, 0⟩) | some t => (180, now, some t)) else
  if x.1 = 1 ∨ x.1 = 2 then (match o with | none => (180, now, none) | some t => (0, t.p, none)) else
  if x.1 = 3 then (match o with | none => (180, now, none) | some t => (0, now, none)) else
  if x.2.1 = 1 then ((putO o x.2.2.1 x.2.2.2.1 (actS x) r size).1, now, (putO o x.2.2.1 x.2.2.2.1 (actS x) r size).2) else ((doO o (actR x) r).1, now, (doO o (actR x) r).2)
section
variable {H G K : Heap} {c : Nat} {a : MdA} {r : RoomT} {size many : Int} {now : Pln} {o : Option Tx} {v : P5} {w : P6} {x : ActT}
theorem row_act {x0 : Sl} {rows : List ActT} (hr : Row G 8 x0 (rowsOf ctA rows)) {i : Nat} (hi : i < rows.length) : ∃ b o, Sl.at 8 x0 (i : Int) = some (b, o) ∧ ∀ {K : Heap}, Row K 8 x0 (rowsOf ctA rows) → rdI .i64 K b o = some rows[i].1 ∧
    rd K (.agg [.int .i64, .int .i64, .int .i64, .int .i64, .int .i64, .int .i64, .str]) b (o + 1) = (some (rows[i].2) : Option (Int × Int × Int × Int × Int × Int × Bytes × Unit)) := by
  obtain ⟨b, o, e1, _⟩ := Row.rd (cts := ctA) hr (i := i) hi (by decide)
  have e1 : Sl.at 8 x0 (i : Int) = some (b, o) := e1
  refine ⟨b, o, e1, fun {K} hk => ?_⟩
  obtain ⟨b1, o1, e2, _, _, cs, bk, r3, r4, r5⟩ := Row.rd (cts := ctA) hk (i := i) hi (by decide)
  have e2 : Sl.at 8 x0 (i : Int) = some (b1, o1) := e2
  rw [e1] at e2
  cases e2
  have hrow : (cs.drop o).take 8 = Tup.mk ctA rows[i] := r5
  generalize rows[i] = y at hrow
  obtain ⟨y0, y1, y2, y3, y4, y5, y6, y7, ⟨⟩⟩ := y
  have hl : o + 8 ≤ cs.length := r4
  constructor
  · refine rdI_of r3 ?_
    have := congrArg (fun l => l[0]?) hrow
    simp only [List.getElem?_take, List.getElem?_drop] at this
    rw [if_pos (by decide : 0 < 8)] at this
    exact this
  · refine rd_agg_of r3 (by simp; omega) ?_
    have : ((cs.drop (o + 1)).take 7) = ((cs.drop o).take 8).drop 1 := by rw [List.drop_take, List.drop_drop]
    show Tup.un [.int .i64, .int .i64, .int .i64, .int .i64, .int .i64, .int .i64, .str] ((cs.drop (o + 1)).take 7) = _
    rw [this, hrow]; rfl
variable {L N T : Nat} {i : Nat}
end
end Ev

namespace Ev
open Go (IntKind)

end Ev

namespace Ev
open Go (IntKind)

end Ev

namespace Ev
open Go (IntKind)

end Ev

namespace Ev
open Go (IntKind)

theorem wp_ex19g {α : Type} {x : Option ((Bool × Unit) × α)} (h : WP x fun r => r.1.1 = true) : ∃ H', x = some ((true, ()), H') := by
  obtain ⟨⟨⟨b, ⟨⟩⟩, G⟩, e1, e2⟩ := h
  have e2 : b = true := e2
  subst e2
  exact ⟨G, e1⟩
theorem came_keep19 {cts : List CT} {B H : Heap} {s : Sl} (h : Came cts B s H) : Keep (fun _ => False) B H := by
  rcases h with ⟨_, rfl⟩ | ⟨len, rows, _, _, _, rfl, _⟩
  · exact Keep.refl _ _
  · exact Keep.push _ _ _
section
variable {H G K : Heap} {c : Nat} {a : MdA} {r : RoomT} {many : Int} {now : Pln} {o : Option Tx} {x : ActT} {i : Nat}
/-- Acts, one behind the other. -/
def actsM (r : RoomT) (p : Pln × Option Tx) (l : List ActT) : Pln × Option Tx := l.foldl (fun p x => (actM p.1 p.2 x r 64).2) p
theorem actsM_snoc (r : RoomT) (p : Pln × Option Tx) (l : List ActT) (x : ActT) : actsM r p (l ++ [x]) = (actM (actsM r p l).1 (actsM r p l).2 x r 64).2 := by unfold actsM; rw [List.foldl_append]; rfl
def actB' (y : Int × Int × Int × Int × Int × Int × Bytes × Unit) : Blk := .cells [.int .i64 y.1, .int .i64 y.2.1, .int .i64 y.2.2.1, .int .i64 y.2.2.2.1, .int .i64 y.2.2.2.2.1, .int .i64 y.2.2.2.2.2.1, .str y.2.2.2.2.2.2.1] .exact
theorem play_round (h : MdAt G c a r 64 many now o) {x0 : Sl} {rows : List ActT} (hr : Row G 8 x0 (rowsOf ctA rows)) (hi : i < rows.length) (hlen : x0.len = rows.length) (h60 : i < 60) (hn : a.n ≤ 1000000) :
    WP (law19_play.s1 (some (c, 0)) x0 ((i : Int), ()) G) fun p => p.1 = .inl (((i + 1 : Nat) : Int), ()) ∧ Keep (fun b => b = c) G p.2 ∧ ∃ a' many', a'.n ≤ a.n + 1 ∧ MdAt p.2 c a' r 64 many' (actM now o rows[i] r 64).2.1 (actM now o rows[i] r 64).2.2 := by
  obtain ⟨b1, o1, e1, e2⟩ := row_act hr hi
  have e3 := (e2 hr).2
  have hGc := get_lt h.c
  have k1 := Keep.app (fun _ => False) G [actB' rows[i].2]
  have e4 := (e2 (hr.keep k1 fun _ _ _ hf => hf)).1
  have hM := h.keep k1
  have tB : (G ++ [actB' rows[i].2])[G.length]? = some (actB' rows[i].2) := by rw [tl_get0]; rfl
  have hw := wrap_succ (show i < 9223372036854775807 by omega)
  have hwr : wr (G ++ [Blk.cells [.int .i64 0, .int .i64 0, .int .i64 0, .int .i64 0, .int .i64 0, .int .i64 0, .str []] .exact]) G.length 0 [.int .i64 rows[i].2.1, .int .i64 rows[i].2.2.1, .int .i64 rows[i].2.2.2.1, .int .i64 rows[i].2.2.2.2.1, .int .i64 rows[i].2.2.2.2.2.1, .int .i64 rows[i].2.2.2.2.2.2.1, .str rows[i].2.2.2.2.2.2.2.1] = some (G ++ [actB' rows[i].2]) := by
    rw [wr_t0, wr_c0 _ _ _ _ (by simp)]; rfl
  generalize rows[i] = x at e3 e4 k1 hM tB hwr
  have kc : ∀ {K : Heap}, Keep (fun b => b = c) (G ++ [actB' x.2]) K → Keep (fun b => b = c) G K := fun k => (k1.mono fun _ hf => hf.elim).trans k
  unfold law19_play.s1
  refine wp_t (decide_eq_true (by rw [hlen]; exact Int.ofNat_lt.2 hi)) (wp_t (decide_eq_true (by omega)) (wp_to e1 (wp_to e3 (wp_to hwr (wp_to e1 (wp_to e4 (wp_if (p := x.1 = 0) rfl (fun k0 => ?_) (fun k0 => ?_))))))))
  · refine wp_seq _ (md_Begin hM) ?_
    rintro ⟨⟨e, ⟨⟩⟩, K⟩ ⟨kK, hK⟩
    have hm : actM now o x r 64 = (match o with | none => (0, now, some ⟨now, 0⟩) | some t => (180, now, some t)) := by unfold actM; rw [if_pos k0]; cases o <;> rfl
    rw [hm]
    refine wp_some ⟨by simp only [hw], kc kK, ?_⟩
    cases o with
    | none =>
      obtain ⟨_, a', ha', hM'⟩ := hK
      exact ⟨a', 0, by omega, hM'⟩
    | some t => exact ⟨a, many, by omega, hK.2⟩
  refine wp_seq (fun p => p = ((decide (x.1 = 1 ∨ x.1 = 2), ()), G ++ [actB' x.2])) ?_ ?_
  · refine wp_if (p := x.1 = 1) rfl (fun q1 => wp_some ?_) (fun q1 => wp_some ?_)
    · rw [decide_eq_true q1, decide_eq_true (.inl q1)]
    · by_cases q2 : x.1 = 2
      · rw [decide_eq_true q2, decide_eq_true (.inr q2)]
      · rw [decide_eq_false q2, decide_eq_false (fun hh => hh.elim q1 q2)]
  rintro _ rfl
  refine wp_if (p := x.1 = 1 ∨ x.1 = 2) rfl (fun q => ?_) (fun q => ?_)
  · unfold model_Model_Commit
    refine wp_bind (wp_seq _ (md_end hM true) ?_)
    rintro ⟨⟨e, ⟨⟩⟩, K⟩ ⟨kK, hK⟩
    have hm : actM now o x r 64 = (match o with | none => (180, now, none) | some t => (0, t.p, none)) := by unfold actM; rw [if_neg k0, if_pos q]; cases o <;> rfl
    rw [hm]
    refine wp_some (wp_some ⟨by simp only [hw], kc kK, ?_⟩)
    cases o with
    | none => exact ⟨a, many, by omega, hK.2⟩
    | some t =>
      obtain ⟨_, a', ha', hM'⟩ := hK
      exact ⟨a', many, by omega, hM'⟩
  refine wp_if (p := x.1 = 3) rfl (fun q3 => ?_) (fun q3 => ?_)
  · unfold model_Model_Abort
    refine wp_bind (wp_seq _ (md_end hM false) ?_)
    rintro ⟨⟨e, ⟨⟩⟩, K⟩ ⟨kK, hK⟩
    have hm : actM now o x r 64 = (match o with | none => (180, now, none) | some t => (0, now, none)) := by unfold actM; rw [if_neg k0, if_neg q, if_pos q3]; cases o <;> rfl
    rw [hm]
    refine wp_some (wp_some ⟨by simp only [hw], kc kK, ?_⟩)
    cases o with
    | none => exact ⟨a, many, by omega, hK.2⟩
    | some t =>
      obtain ⟨_, a', ha', hM'⟩ := hK
      exact ⟨a', many, by omega, hM'⟩
  refine wp_to (rdI_of tB (n := x.2.1) rfl) (wp_if (p := x.2.1 = 1) rfl (fun k1' => ?_) (fun k1' => ?_))
  · have hm : actM now o x r 64 = ((putO o x.2.2.1 x.2.2.2.1 (actS x) r 64).1, now, (putO o x.2.2.1 x.2.2.2.1 (actS x) r 64).2) := by unfold actM; rw [if_neg k0, if_neg q, if_neg q3, if_pos k1']
    rw [hm]
    refine wp_to (rdI_of tB (n := x.2.2.1) rfl) (wp_to (rdI_of tB (n := x.2.2.2.1) rfl) (wp_to (rdS_of tB (n := actS x) rfl) (wp_seq _ (md_Put hM x.2.2.1 x.2.2.2.1 (actS x) (by omega)) ?_)))
    rintro ⟨⟨e, ⟨⟩⟩, K⟩ ⟨q1, q2, q3⟩
    exact wp_some ⟨by simp only [hw], kc q1, q3⟩
  · have hm : actM now o x r 64 = ((doO o (actR x) r).1, now, (doO o (actR x) r).2) := by unfold actM; rw [if_neg k0, if_neg q, if_neg q3, if_neg k1']
    rw [hm]
    have hrB : rd (G ++ [actB' x.2]) (.agg [.int .i64, .int .i64, .int .i64, .int .i64, .int .i64, .int .i64]) G.length 0 = (some (actR x) : Option RecT) := rd_agg_of tB (by simp) rfl
    refine wp_to hrB (wp_seq _ (md_Do hM (actR x)) ?_)
    rintro ⟨⟨e, ⟨⟩⟩, K⟩ ⟨q1, q2, a', many', ha', q3⟩
    exact wp_some ⟨by simp only [hw], kc q1, a', many', by omega, q3⟩
/-- Acts are played. -/
theorem play_eq (h : MdAt G c a r 64 many now o) {x0 : Sl} {rows : List ActT} (hr : Row G 8 x0 (rowsOf ctA rows)) (hlen : x0.len = rows.length) (hlow : ∀ b o', x0.p = some (b, o') → b ≠ c) (hn : a.n ≤ 1000) :
    WP (law19_play (some (c, 0)) x0 G) fun p => Keep (fun b => b = c) G p.2 ∧ ∃ a' many', a'.n ≤ a.n + 60 ∧ MdAt p.2 c a' r 64 many' (actsM r (now, o) (rows.take 60)).1 (actsM r (now, o) (rows.take 60)).2 := by
  unfold law19_play
  refine wp_seq (fun p => Keep (fun b => b = c) G p.2 ∧ ∃ a' many', a'.n ≤ a.n + 60 ∧ MdAt p.2 c a' r 64 many' (actsM r (now, o) (rows.take 60)).1 (actsM r (now, o) (rows.take 60)).2) ?_ ?_
  · refine wp_mono (wp_rise (step := law19_play.s1 (some (c, 0)) x0) (min rows.length 60) (fun i (y : Int × Unit) K => y = ((i : Int), ()) ∧ Keep (fun b => b = c) G K ∧ ∃ a' many', a'.n ≤ a.n + i ∧ MdAt K c a' r 64 many' (actsM r (now, o) (rows.take i)).1 (actsM r (now, o) (rows.take i)).2)
      (fun (_ : Unit) K => Keep (fun b => b = c) G K ∧ ∃ a' many', a'.n ≤ a.n + 60 ∧ MdAt K c a' r 64 many' (actsM r (now, o) (rows.take 60)).1 (actsM r (now, o) (rows.take 60)).2) ?_ ?_ ⟨rfl, Keep.refl _ _, a, many, by omega, h⟩) fun p hp => hp
    · rintro i y K hi ⟨rfl, hK, a1, m1, ha1, hM1⟩
      have hir : i < rows.length := by omega
      refine wp_mono (play_round hM1 (hr.keep hK fun b o' hp hh => hlow b o' hp hh) hir hlen (by omega) (by omega)) ?_
      rintro ⟨x, K2⟩ ⟨rfl, k2, a2, m2, ha2, hM2⟩
      refine ⟨rfl, hK.trans k2, a2, m2, by omega, ?_⟩
      rw [take_snoc hir, actsM_snoc]
      exact hM2
    · rintro y K ⟨rfl, hK, a1, m1, ha1, hM1⟩
      unfold law19_play.s1
      by_cases hl : rows.length ≤ 60
      · rw [Nat.min_eq_left hl, List.take_length] at hM1
        rw [Nat.min_eq_left hl]
        refine wp_f (decide_eq_false (by rw [hlen]; exact Int.lt_irrefl _)) (wp_some ⟨hK, a1, m1, by omega, ?_⟩)
        rw [List.take_of_length_le hl]
        exact hM1
      · rw [Nat.min_eq_right (by omega)] at hM1 ⊢
        exact wp_t (decide_eq_true (by rw [hlen]; exact Int.ofNat_lt.2 (by omega))) (wp_f rfl (wp_some ⟨hK, a1, m1, by omega, hM1⟩))
  · rintro ⟨⟨⟩, K⟩ hK
    exact wp_some hK
theorem cmp_leaves {s1 s2 : Sl} {l : List (Tup ctF)} (h1 : Row K 3 s1 (rowsOf ctF l)) (h2 : Row K 3 s2 (rowsOf ctF l)) (l1 : s1.len = l.length) (hl : l.length ≤ 100000) {G1 G2 : Heap} :
    WP (loopW (law19_ModelCopies.s1 ((s1, ()), G1) ((s2, ()), G2)) (0, ()) K) fun r => r.1 = .inl () ∧ r.2 = K := by
  refine wp_rise l.length (fun i (y : Int × Unit) G => y = ((i : Int), ()) ∧ G = K) (fun (x : Unit ⊕ (Bool × Unit)) G => x = .inl () ∧ G = K) ?_ ?_ ⟨rfl, rfl⟩
  · rintro i y G hi ⟨rfl, rfl⟩
    obtain ⟨b1, o1, e1, e2, _⟩ := Row.rd (cts := ctF) h1 (i := i) hi (by decide)
    obtain ⟨b2, o2, e3, e4, _⟩ := Row.rd (cts := ctF) h2 (i := i) hi (by decide)
    have hw := wrap_succ (show i < 9223372036854775807 by omega)
    unfold law19_ModelCopies.s1
    refine wp_t (decide_eq_true (by rw [l1]; exact Int.ofNat_lt.2 hi)) (wp_to e1 (wp_to e2 (wp_to e3 (wp_to e4 (wp_f (by simp) (wp_some ⟨?_, rfl⟩))))))
    simp only [hw]
  · rintro y G ⟨rfl, rfl⟩
    unfold law19_ModelCopies.s1
    exact wp_f (decide_eq_false (by rw [l1]; exact Int.lt_irrefl _)) (wp_some ⟨rfl, rfl⟩)
theorem cmp_spaces {s1 s2 : Sl} {l : List (Tup ctI)} (h1 : Row K 4 s1 (rowsOf ctI l)) (h2 : Row K 4 s2 (rowsOf ctI l)) (l1 : s1.len = l.length) (hl : l.length ≤ 100000) {G1 G2 : Heap} :
    WP (loopW (law19_ModelCopies.s2 ((s1, ()), G1) ((s2, ()), G2)) (0, ()) K) fun r => r.1 = .inl () ∧ r.2 = K := by
  refine wp_rise l.length (fun i (y : Int × Unit) G => y = ((i : Int), ()) ∧ G = K) (fun (x : Unit ⊕ (Bool × Unit)) G => x = .inl () ∧ G = K) ?_ ?_ ⟨rfl, rfl⟩
  · rintro i y G hi ⟨rfl, rfl⟩
    obtain ⟨b1, o1, e1, e2, _⟩ := Row.rd (cts := ctI) h1 (i := i) hi (by decide)
    obtain ⟨b2, o2, e3, e4, _⟩ := Row.rd (cts := ctI) h2 (i := i) hi (by decide)
    have hw := wrap_succ (show i < 9223372036854775807 by omega)
    unfold law19_ModelCopies.s2
    refine wp_t (decide_eq_true (by rw [l1]; exact Int.ofNat_lt.2 hi)) (wp_to e1 (wp_to e2 (wp_to e3 (wp_to e4 (wp_f (by simp) (wp_some ⟨?_, rfl⟩))))))
    simp only [hw]
  · rintro y G ⟨rfl, rfl⟩
    unfold law19_ModelCopies.s2
    exact wp_f (decide_eq_false (by rw [l1]; exact Int.lt_irrefl _)) (wp_some ⟨rfl, rfl⟩)
theorem ModelCopies_true (s s' : Sl) {H0 H : Heap} (hc : Came ctA [] s H0) (hc' : Came ctA H0 s' H) : ∃ H', law19_ModelCopies s s' H = some ((true, ()), H') := by
  obtain ⟨rows, hr, hlen, _, _⟩ := came_rows hc
  obtain ⟨rows2, hr2, hlen2, _, _⟩ := came_rows hc'
  have hr : Row H 8 s (rowsOf ctA rows) := (show Row H0 8 s (rowsOf ctA rows) from hr).keep (came_keep19 hc') fun _ _ _ hf => hf
  have hr2 : Row H 8 s' (rowsOf ctA rows2) := hr2
  have hlow : ∀ b o, s.p = some (b, o) → b < H.length := fun b o hp => hr.lt hp
  have hlow2 : ∀ b o, s'.p = some (b, o) → b < H.length := fun b o hp => hr2.lt hp
  apply wp_ex19g
  unfold law19_ModelCopies
  obtain ⟨c, G, n1, n2, n3, a, na, hM⟩ := md_New H (10, 20, 0, 0, ()) 64
  refine wp_to room9 (wp_to n1 (wp_seq _ (play_eq hM (rows := rows) (hr.keep n3 fun _ _ _ hf => hf) hlen (fun b o' hp e => by have := hlow b o' hp; omega) (by omega)) ?_))
  generalize hp1 : actsM (10, 20, 0, 0, ()) (⟨⟨[], [], [], []⟩, []⟩, none) (List.take (α := ActT) 60 rows) = p1
  obtain ⟨now1, o1⟩ := p1
  rintro ⟨⟨⟩, G1⟩ ⟨kG1, a1, m1, ha1, hM1⟩
  have kG1 : Keep (fun b => b = c) G G1 := kG1
  have hM1 : MdAt G1 c a1 (10, 20, 0, 0, ()) 64 m1 now1 o1 := hM1
  have hr21 : Row G1 8 s' (rowsOf ctA rows2) := (hr2.keep n3 fun _ _ _ hf => hf).keep kG1 fun b o' hp e => by have := hlow2 b o' hp; have e : b = c := e; omega
  refine wp_seq _ (md_Leaves hM1) ?_
  rintro ⟨⟨sl1, ⟨⟩⟩, G2⟩ ⟨_, hs, hL1, hLl1, k2⟩
  cases hs
  have k2 : Keep (fun _ => False) G1 G2 := k2
  have hM2 := hM1.keep k2
  refine wp_seq _ (md_Spaces hM2) ?_
  rintro ⟨⟨ss1, ⟨⟩⟩, G3⟩ ⟨_, hs, hS1, hSl1, k3⟩
  cases hs
  have k3 : Keep (fun _ => False) G2 G3 := k3
  have hM3 := hM2.keep k3
  refine wp_seq _ (md_Copy hM3) ?_
  rintro ⟨⟨pp, ⟨⟩⟩, G4⟩ ⟨c', hpp, hcc, k4, a', ha', hC4⟩
  cases hpp
  have k4 : Keep (fun _ => False) G3 G4 := k4
  have hcc : G3.length ≤ c' := hcc
  have hC4 : MdAt G4 c' a' (10, 20, 0, 0, ()) 64 m1 now1 o1 := hC4
  have hcl := get_lt hM3.c
  have hM4 := hM3.keep k4
  have hr24 : Row G4 8 s' (rowsOf ctA rows2) := ((hr21.keep k2 fun _ _ _ hf => hf).keep k3 fun _ _ _ hf => hf).keep k4 fun _ _ _ hf => hf
  have hlow4 : ∀ b o, s'.p = some (b, o) → b < G3.length := fun b o hp => ((hr21.keep k2 fun _ _ _ hf => hf).keep k3 fun _ _ _ hf => hf).lt hp
  refine wp_seq _ (play_eq hC4 (rows := rows2) hr24 hlen2 (fun b o' hp e => by have := hlow4 b o' hp; omega) (by omega)) ?_
  generalize hp2 : actsM (10, 20, 0, 0, ()) (now1, o1) (List.take (α := ActT) 60 rows2) = p2
  obtain ⟨now2, o2⟩ := p2
  rintro ⟨⟨⟩, G5⟩ ⟨kG5, a5, m5, ha5, hC5⟩
  have kG5 : Keep (fun b => b = c') G4 G5 := kG5
  have hC5 : MdAt G5 c' a5 (10, 20, 0, 0, ()) 64 m5 now2 o2 := hC5
  have hM5 := hM4.other (show c' ≠ c by omega) hC4.c kG5
  refine wp_seq _ (md_Leaves hM5) ?_
  rintro ⟨⟨sl2, ⟨⟩⟩, G6⟩ ⟨_, hs, hL2, hLl2, k6⟩
  cases hs
  have k6 : Keep (fun _ => False) G5 G6 := k6
  have hM6 := hM5.keep k6
  refine wp_seq _ (md_Spaces hM6) ?_
  rintro ⟨⟨ss2, ⟨⟩⟩, G7⟩ ⟨_, hs, hS2, hSl2, k7⟩
  cases hs
  have k7 : Keep (fun _ => False) G6 G7 := k7
  have hM7 := hM6.keep k7
  have hC7 := (hC5.keep k6).keep k7
  have hL1 : Row G2 3 sl1 (rowsOf ctF ((seeP now1 o1).st.lv.map (leafR (seeP now1 o1)))) := hL1
  have hS1 : Row G3 4 ss1 (rowsOf ctI (infos (seeP now1 o1).st)) := hS1
  have hL2 : Row G6 3 sl2 (rowsOf ctF ((seeP now1 o1).st.lv.map (leafR (seeP now1 o1)))) := hL2
  have hS2 : Row G7 4 ss2 (rowsOf ctI (infos (seeP now1 o1).st)) := hS2
  have hL17 : Row G7 3 sl1 (rowsOf ctF ((seeP now1 o1).st.lv.map (leafR (seeP now1 o1)))) := (((((hL1.keep k3 fun _ _ _ hf => hf).keep k4 fun _ _ _ hf => hf).keep kG5 fun b o' hp e => by
    have h1 := hL1.lt hp
    have h2 := k3.len
    have e : b = c' := e
    omega).keep k6 fun _ _ _ hf => hf).keep k7 fun _ _ _ hf => hf)
  have hS17 : Row G7 4 ss1 (rowsOf ctI (infos (seeP now1 o1).st)) := ((((hS1.keep k4 fun _ _ _ hf => hf).keep kG5 fun b o' hp e => by
    have h1 := hS1.lt hp
    have e : b = c' := e
    omega).keep k6 fun _ _ _ hf => hf).keep k7 fun _ _ _ hf => hf)
  have hw : SaW (seeP now1 o1).st := by obtain ⟨_, _, _, h2, _⟩ := md_see hM1; exact h2.w
  have hmany := hw.many
  have hfew := hw.few
  have hll : ((seeP now1 o1).st.lv.map (leafR (seeP now1 o1))).length = (seeP now1 o1).st.lv.length := List.length_map _
  have hil : (infos (seeP now1 o1).st).length = (seeP now1 o1).st.sp.length := List.length_map _
  have hr27 : Row G7 8 s' (rowsOf ctA rows2) := ((hr24.keep kG5 fun b o' hp e => by
    have := hlow4 b o' hp
    have e : b = c' := e
    omega).keep k6 fun _ _ _ hf => hf).keep k7 fun _ _ _ hf => hf
  refine wp_to awake19 (wp_f rfl (wp_f (by simp [hLl1, hLl2]) (wp_f (by simp [hSl1, hSl2]) ?_)))
  refine wp_seq _ (cmp_leaves hL17 (hL2.keep k7 fun _ _ _ hf => hf) (by rw [hll]; exact hLl1) (by omega)) ?_
  rintro ⟨x, K⟩ ⟨rfl, rfl⟩
  refine wp_seq _ (cmp_spaces hS17 hS2 (by rw [hil]; exact hSl1) (by omega)) ?_
  rintro ⟨x, K'⟩ ⟨rfl, rfl⟩
  refine wp_seq _ (play_eq hM7 (rows := rows2) hr27 hlen2 (fun b o' hp e => by have := hlow2 b o' hp; omega) (by omega)) ?_
  rw [hp2]
  rintro ⟨⟨⟩, G8⟩ ⟨k8, a8, m8, ha8, hM8⟩
  have k8 : Keep (fun b => b = c) _ G8 := k8
  have hM8 : MdAt G8 c a8 (10, 20, 0, 0, ()) 64 m8 now2 o2 := hM8
  have hC8 := hC7.other (show c ≠ c' by omega) hM7.c k8
  refine wp_seq _ (md_Leaves hM8) ?_
  rintro ⟨⟨sl3, ⟨⟩⟩, G9⟩ ⟨_, hs, _, hLl3, k9⟩
  cases hs
  have k9 : Keep (fun _ => False) G8 G9 := k9
  have hM9 := hM8.keep k9
  have hC9 := hC8.keep k9
  refine wp_seq _ (md_Leaves hC9) ?_
  rintro ⟨⟨sl4, ⟨⟩⟩, G10⟩ ⟨_, hs, _, hLl4, k10⟩
  cases hs
  have k10 : Keep (fun _ => False) G9 G10 := k10
  refine wp_t (by simp [hLl3, hLl4]) (wp_seq _ (md_Spaces (hM9.keep k10)) ?_)
  rintro ⟨⟨ss3, ⟨⟩⟩, G11⟩ ⟨_, hs, _, hSl3, k11⟩
  cases hs
  have k11 : Keep (fun _ => False) G10 G11 := k11
  refine wp_seq _ (md_Spaces ((hC9.keep k10).keep k11)) ?_
  rintro ⟨⟨ss4, ⟨⟩⟩, G12⟩ ⟨_, hs, _, hSl4, k12⟩
  cases hs
  exact wp_some (by simp [hSl3, hSl4])
end
end Ev

