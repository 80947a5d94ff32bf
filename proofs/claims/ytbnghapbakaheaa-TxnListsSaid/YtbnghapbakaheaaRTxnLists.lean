/- What the law leans on: texts of this claim, put together. -/
import Derived.Test.YtbnghapbakaheaaEvCore
import Derived.Test.YtbnghapbakaheaaEvLoop
import Derived.Test.YtbnghapbakaheaaEvOpen
import Derived.Test.YtbnghapbakaheaaGRec
import Derived.Test.YtbnghapbakaheaaGRef07
import Derived.Test.YtbnghapbakaheaaGState
import Derived.Test.YtbnghapbakaheaaGRef08
import Derived.Test.YtbnghapbakaheaaGRef16
import Derived.Test.YtbnghapbakaheaaGLaw17
import Derived.Test.YtbnghapbakaheaaGTxn
import Derived.Test.YtbnghapbakaheaaRTxnListsa
set_option linter.unusedSimpArgs false
set_option linter.unusedVariables false
namespace Ev
open Go (IntKind)

section
variable {H : Heap} {a : SaA} {st : Sta}
theorem st_copy (h : StAt H a st) : ∃ G a', state_State_Copy (some (a.c, 0)) H = some ((some (a'.c, 0), ()), G) ∧ StAt G a' st ∧ Keep (fun _ => False) H G ∧ ∀ b, a'.fp st b → H.length ≤ b := by
  have hnd := h.nd
  have h1 := h.push (.mp [] 0)
  have hc1 := h1.rf.clone
  have h2 := h1.push (.mp (encA inW (rfOf st.lv)) 0)
  have hc2 := h2.bd.clone
  have h3 := h2.push (.mp (encA boW st.bd) 0)
  have hc3 := h3.wn.clone
  have h4 := h3.push (.mp (encA inW st.wn) 0)
  have h5 := (h4.push (.cells [.mp (some H.length), .mp (some (H.length + 1)), .mp (some (H.length + 2)), .mp (some (H.length + 3))] .exact)).push .dead
  have hrd1 := h2.r2
  have hrd2 := h2.r3
  have hrd3 := h3.r3
  have hr0 := (h4.push (.cells [.mp (some H.length), .mp (some (H.length + 1)), .mp (some (H.length + 2)), .mp (some (H.length + 3))] .exact)).r0
  have hl4 : (H ++ [Blk.mp [] 0] ++ [Blk.mp (encA inW (rfOf st.lv)) 0] ++ [Blk.mp (encA boW st.bd) 0] ++ [Blk.mp (encA inW st.wn) 0]).length = H.length + 4 := by simp
  generalize hH5 : H ++ [Blk.mp [] 0] ++ [.mp (encA inW (rfOf st.lv)) 0] ++ [.mp (encA boW st.bd) 0] ++ [.mp (encA inW st.wn) 0] ++ [.cells [.mp (some H.length), .mp (some (H.length + 1)), .mp (some (H.length + 2)), .mp (some (H.length + 3))] .exact] ++ [.dead] = H5 at h5
  have hH5' : H5 = H ++ [.mp [] 0, .mp (encA inW (rfOf st.lv)) 0, .mp (encA boW st.bd) 0, .mp (encA inW st.wn) 0, .cells [.mp (some H.length), .mp (some (H.length + 1)), .mp (some (H.length + 2)), .mp (some (H.length + 3))] .exact, .dead] := by rw [← hH5]; simp
  have k5 : Keep (fun _ => False) H H5 := by rw [hH5']; exact Keep.app _ _ _
  have l5 : H5.length = H.length + 6 := by rw [hH5']; simp
  have g0 : H5[H.length]? = some (.mp [] 0) := by rw [hH5', tl_get0]; rfl
  have g1 : H5[H.length + 1]? = some (.mp (encA inW (rfOf st.lv)) 0) := by rw [hH5', tl_get1]; rfl
  have g2 : H5[H.length + 2]? = some (.mp (encA boW st.bd) 0) := by rw [hH5', tl_get1]; rfl
  have g3 : H5[H.length + 3]? = some (.mp (encA inW st.wn) 0) := by rw [hH5', tl_get1]; rfl
  have g4 : H5[H.length + 4]? = some (.cells [.mp (some H.length), .mp (some (H.length + 1)), .mp (some (H.length + 2)), .mp (some (H.length + 3))] .exact) := by rw [hH5', tl_get1]; rfl
  have hsl := h.sp.lt
  obtain ⟨G, pg', e1, e2, e3, e4, e5, e6⟩ := clone_loop (g := inW) (fun _ _ _ => rfl) h.w.sp (P := fun id => pgs st.lv id) h5.sp h5.pg g0 (show a.sp ≠ H.length by omega) (fun id x hx => by have := (h.pg id x hx).lt; omega)
    (step := state_State_Copy.s1 ((some (H.length + 3), ()), H ++ [.mp [] 0] ++ [.mp (encA inW (rfOf st.lv)) 0] ++ [.mp (encA boW st.bd) 0] ++ [.mp (encA inW st.wn) 0]) (some a.sp))
    (fun k x G hx hm hp hlow hlen => by
      have hm1 : mat G (.agg [.int .i64, .bool, .mp]) (some a.sp) k = (some (x.1, x.2, some (a.pg k), ()) : Option (Int × Bool × Option Nat × Unit)) := hm.mat (.agg [.int .i64, .bool, .mp]) k (by rw [hx]; rfl)
      have hcl := (hp.keep (F := fun _ => False) (Keep.push _ G (.cells [.int .i64 x.1, .bool x.2, .mp (some (a.pg k))] .exact)) fun hf => hf).clone
      have hbx : rdM (G ++ [.cells [.int .i64 x.1, .bool x.2, .mp (some (G.length + 1))] .exact, .mp (encA inW (pgs st.lv k)) 0]) (H.length + 4) 0 = some (some H.length) := by
        refine rdM_of (cs := [.mp (some H.length), .mp (some (H.length + 1)), .mp (some (H.length + 2)), .mp (some (H.length + 3))]) (bk := .exact) ?_ rfl
        rw [List.getElem?_append_left (by omega), hlow _ (by omega) (by omega)]; exact g4
      unfold state_State_Copy.s1
      refine (bind_to hm1).trans ?_
      simp only [Option.bind_some, Option.map_some, cond_true, cond_false, List.append_assoc, List.cons_append, List.nil_append, List.length_append, List.length_cons, List.length_nil, Nat.zero_add, rd_t0, rd_t1, rdI_t0, rdI_t1, rdB_t0, rdB_t1, rdM_t0, rdM_t1, rd_c1, rdI_c1, rdB_c1, rdM_c1, rdI_c0, rdB_c0, rdM_c0, wr_t0, wr_t1, wr_c0, wr_c1, setL, List.set, List.getElem?_cons_zero, List.getElem?_cons_succ, un_i, un_b, un_m, un_s, Nat.le_refl, rd_iiib, rd_iiiiii, rd_ibm, rd_iii, rd_iib, rd_ii, rd_3312, rd_iiii, rd_si, rd_33121, rd_33121i, slRow_t0, slRow_t1, sl_c0, sl_c1] at hcl ⊢
      simp only [hcl, Option.bind_some, Option.map_some, cond_true, cond_false, List.append_assoc, List.cons_append, List.nil_append, List.length_append, List.length_cons, List.length_nil, Nat.zero_add, rd_t0, rd_t1, rdI_t0, rdI_t1, rdB_t0, rdB_t1, rdM_t0, rdM_t1, rd_c1, rdI_c1, rdB_c1, rdM_c1, rdI_c0, rdB_c0, rdM_c0, wr_t0, wr_t1, wr_c0, wr_c1, setL, List.set, List.getElem?_cons_zero, List.getElem?_cons_succ, un_i, un_b, un_m, un_s, Nat.le_refl, rd_iiib, rd_iiiiii, rd_ibm, rd_iii, rd_iib, rd_ii, rd_3312, rd_iiii, rd_si, rd_33121, rd_33121i, slRow_t0, slRow_t1, sl_c0, sl_c1, hl4, hbx])
  have kG : ∀ {b : Nat} {y : Blk}, H5[b]? = some y → b ≠ H.length → G[b]? = some y := fun hb hne => by rw [e2 _ (get_lt hb) hne]; exact hb
  have g1' := kG g1 (by omega)
  have g2' := kG g2 (by omega)
  have g3' := kG g3 (by omega)
  have g4' := kG g4 (by omega)
  refine ⟨G, ⟨H.length + 4, H.length, H.length + 1, H.length + 2, H.length + 3, pg'⟩, ?_, ⟨h.w, g4', e4, fun id x hx => (e5 id x hx).1, ⟨0, g1'⟩, ⟨0, g2'⟩, ⟨0, g3'⟩, by simp only; omega, fun id x hx => by have := (e5 id x hx).2; simp only; omega, e6⟩, ⟨by omega, fun b hb _ => by rw [e2 b (by omega) (by omega), k5.same b hb fun hf => hf]⟩, ?_⟩
  · unfold state_State_Copy
    have hc1' : mclone (some a.rf) (H ++ [.mp [] 0]) = some ((some (H.length + 1), ()), H ++ [.mp [] 0] ++ [.mp (encA inW (rfOf st.lv)) 0]) := by rw [hc1]; simp
    have hc2' : mclone (some a.bd) (H ++ [.mp [] 0] ++ [.mp (encA inW (rfOf st.lv)) 0]) = some ((some (H.length + 2), ()), H ++ [.mp [] 0] ++ [.mp (encA inW (rfOf st.lv)) 0] ++ [.mp (encA boW st.bd) 0]) := by rw [hc2]; simp
    have hc3' : mclone (some a.wn) (H ++ [.mp [] 0] ++ [.mp (encA inW (rfOf st.lv)) 0] ++ [.mp (encA boW st.bd) 0]) = some ((some (H.length + 3), ()), H ++ [.mp [] 0] ++ [.mp (encA inW (rfOf st.lv)) 0] ++ [.mp (encA boW st.bd) 0] ++ [.mp (encA inW st.wn) 0]) := by rw [hc3]; simp
    have t1 : (H ++ [Blk.mp [] 0] ++ [Blk.mp (encA inW (rfOf st.lv)) 0])[H.length]? = some (.mp [] 0) := by rw [List.append_assoc, tl_get0]; rfl
    have t2 : (H ++ [Blk.mp [] 0] ++ [Blk.mp (encA inW (rfOf st.lv)) 0] ++ [Blk.mp (encA boW st.bd) 0])[H.length]? = some (.mp [] 0) := by rw [List.append_assoc, List.append_assoc, tl_get0]; rfl
    have t3 : (H ++ [Blk.mp [] 0] ++ [Blk.mp (encA inW (rfOf st.lv)) 0] ++ [Blk.mp (encA boW st.bd) 0] ++ [Blk.mp (encA inW st.wn) 0] ++ [Blk.cells [.mp (some H.length), .mp (some (H.length + 1)), .mp (some (H.length + 2)), .mp (some (H.length + 3))] .exact])[H.length]? = some (.mp [] 0) := by rw [List.append_assoc, List.append_assoc, List.append_assoc, List.append_assoc, tl_get0]; rfl
    simp only [Option.isNone_some, cond_false, Option.bind_some, h1.r1, h1.r2, h1.r3, hc1', hrd1, hrd2, if_true, t1, hc2', t2, hrd3, hc3', t3, hr0]
    rw [hH5]
    refine (bind_to e1).trans ?_
    simp only [hl4]
  · rintro b (rfl | rfl | rfl | rfl | rfl | ⟨id, x, hx, rfl⟩)
    · simp only; omega
    · exact Nat.le_refl _
    · simp only; omega
    · simp only; omega
    · simp only; omega
    · have := (e5 id x hx).2
      simp only; omega
end
end Ev

namespace Ev
open Go (IntKind)

section
variable {α : Type}
theorem ains_snoc {l : List (Int × α)} {k : Int} (v : α) (h : ∀ x ∈ l, x.1 < k) : ains l k v = l ++ [(k, v)] := by
  induction l with
  | nil => rfl
  | cons x l ih =>
    have := h x (by simp)
    rw [ains, if_neg (by omega), if_neg (by omega), ih fun y hy => h y (by simp [hy])]; rfl
end
end Ev

namespace Ev
open Go (IntKind)

abbrev RfV := Sl × Sl × Sl × Sl × Unit
end Ev

namespace Ev
open Go (IntKind)

end Ev

namespace Ev
open Go (IntKind)

end Ev

namespace Ev
open Go (IntKind)

end Ev

namespace Ev
open Go (IntKind)

section
variable {α : Type}
def putS (k : Int) (l : List (Int × α)) : Bool := l.any fun x => decide (k < x.1)
end
end Ev

namespace Ev
open Go (IntKind)

section
variable {H G : Heap} {v v' : RfV} {st st' : Sta}
theorem SaW.spi (w : SaW st) {id : Int} (hid : 1 ≤ id ∧ id ≤ 15) {q : Int} (hq : q ≤ 1024) (b : Bool) : SaW ⟨ains st.sp id (q, b), st.lv, st.bd, st.wn⟩ :=
  ⟨w.sp.ins _ _, w.lv, w.bd, w.wn, fun y hy => by
    show (afind (ains st.sp id (q, b)) (y.1 / 1024)).isSome = true
    rw [afind_ins w.sp]
    split
    · rfl
    · exact w.own y hy,
   fun y hy => (ains_mem hy).elim (fun e => by rw [e]; exact ⟨hid.1, hid.2, hq⟩) (w.ids y), w.bds, w.wns⟩
end
end Ev

namespace Ev
open Go (IntKind)

end Ev

namespace Ev
open Go (IntKind)

end Ev

namespace Ev
open Go (IntKind)

section
variable {H G : Heap} {v v' : RfV} {st st' : Sta}
theorem SaW.gone (w : SaW st) (id : Int) : SaW ⟨adrop st.sp id, lvOff st.lv id, st.bd, st.wn⟩ :=
  ⟨w.sp.drop _, lvOff_asc w.lv id, w.bd, w.wn, fun y hy => by
    have hm := List.mem_filter.1 hy
    have hne : ¬ y.1 / 1024 = id := by simpa using hm.2
    show (afind (adrop st.sp id) (y.1 / 1024)).isSome = true
    rw [afind_drop w.sp, if_neg hne]
    exact w.own y hm.1, fun y hy => w.ids y ((adrop_sub _ _).subset hy), w.bds, w.wns⟩
end
end Ev

namespace Ev
open Go (IntKind)

section
variable {H G : Heap} {v v' : RfV} {st st' : Sta} {x : RecT}
theorem SaW.moved (w : SaW st) (f t : Int) : SaW ⟨st.sp, mv f t st.lv, st.bd, st.wn⟩ :=
  ⟨w.sp, mv_asc w.lv, w.bd, w.wn, fun y hy => by
    obtain ⟨z, hz, rfl⟩ := List.mem_map.1 hy
    have : (if z.2 = f then (z.1, t) else z).1 = z.1 := by split <;> rfl
    rw [this]; exact w.own z hz, w.ids, w.bds, w.wns⟩
end
end Ev

namespace Ev
open Go (IntKind)

end Ev

namespace Ev
open Go (IntKind)

end Ev

namespace Ev
open Go (IntKind)

theorem wp_tmp4 {G : Heap} {β : Type} {a b c : Int} {d : Bool} {K : Heap → Option β} {Q : β → Prop} (k : WP (K (G ++ [.cells [.int .i64 a, .int .i64 b, .int .i64 c, .bool d] .exact])) Q) :
    WP ((wr (G ++ [.cells [.int .i64 0, .int .i64 0, .int .i64 0, .bool false] .exact]) G.length 0 [.int .i64 a, .int .i64 b, .int .i64 c, .bool d]).bind K) Q :=
  wp_to (by rw [wr_t0, wr_c0 _ _ _ _ (by simp)]; rfl) k
end Ev

namespace Ev
open Go (IntKind)

end Ev

namespace Ev
open Go (IntKind)

section
variable {st : Sta} {x : RecT}
theorem SaW.has (w : SaW st) {k v : Int} (h : afind st.lv k = some v) : ∃ y, afind st.sp (k / 1024) = some y := Option.isSome_iff_exists.1 (w.own (k, v) (afind_mem h))
end
theorem SaW.opened {st : Sta} (w : SaW st) {id q : Int} (hid : 1 ≤ id ∧ id ≤ 15) (hq : q ≤ 1024) {P : List (Int × Int)} (hP : Asc P) (hpb : ∀ p a, afind P p = some a → 0 ≤ p ∧ p < 1024) : SaW (st.openS id q P).2 := by
  unfold Sta.openS
  split
  · exact w
  · have w1 := w.spi hid hq false
    refine ⟨w1.sp, insAll_asc w.lv, w.bd, w.wn, fun y hy => ?_, w1.ids, w.bds, w.wns⟩
    have hf : afind (insAll id st.lv P) y.1 = some y.2 := (insAll_asc w.lv).find hy
    rw [insAll_find y.1 w.lv hP] at hf
    cases hg : afind P (y.1 - id * 1024) with
    | some u =>
      have := hpb _ _ hg
      show (afind (ains st.sp id (q, false)) (y.1 / 1024)).isSome = true
      rw [afind_ins w.sp, if_pos (by omega)]; rfl
    | none =>
      rw [hg] at hf
      exact w1.own y (afind_mem hf)
theorem SaW.doS {st : Sta} (w : SaW st) (x : RecT) : SaW (st.doS x).2 := by
  unfold Sta.doS
  by_cases hc : chkR x = true
  · rw [if_pos hc]
    have g := chk_good hc
    unfold Sta.applyS
    by_cases k4 : x.1 = 4
    · rw [if_pos k4]
      exact w.opened (g.k4 k4).1 (g.k4 k4).2 Asc.nil fun p a hh => by cases hh
    rw [if_neg k4]
    by_cases k3 : x.1 = 3
    · rw [if_pos k3]
      unfold Sta.moveS
      split
      · exact w
      · split
        · exact w
        · exact w.moved _ _
    rw [if_neg k3]
    by_cases k8 : x.1 = 8
    · rw [if_pos k8]; exact w.bd' (g.k8 k8)
    rw [if_neg k8]
    by_cases k9 : x.1 = 9
    · rw [if_pos k9]; exact w.wn' (g.k9 k9) _
    rw [if_neg k9]
    cases hf : afind st.sp x.2.1 with
    | none => exact w
    | some s =>
      have hids := w.ids _ (afind_mem hf)
      simp only
      by_cases k1 : x.1 = 1
      · rw [if_pos k1]
        by_cases e1 : x.2.2.1 < 0
        · rw [if_pos e1]; exact w
        rw [if_neg e1]
        by_cases e2 : s.1 ≤ x.2.2.1
        · rw [if_pos e2]; exact w
        rw [if_neg e2]
        exact w.key hf (by have := hids.2.2; simp only at this; omega) _
      rw [if_neg k1]
      by_cases k2 : x.1 = 2
      · rw [if_pos k2]
        split
        · exact w.less _
        · exact w
      rw [if_neg k2]
      by_cases k5 : x.1 = 5
      · rw [if_pos k5]; exact w.gone _
      rw [if_neg k5]
      by_cases k6 : x.1 = 6
      · rw [if_pos k6]
        exact w.opened (g.k6 k6) hids.2.2 (pgs_asc w.lv _) fun p a hp => by
          have := pgs_mem (afind_mem hp)
          exact ⟨this.1, this.2.1⟩
      rw [if_neg k6]
      exact w.spi ⟨hids.1, hids.2.1⟩ hids.2.2 true
  · rw [if_neg hc]; exact w
end Ev

namespace Ev
open Go (IntKind)

end Ev

namespace Ev
open Go (IntKind)

/-- What stands at a place: what the page says, its own number. -/
abbrev LfF := Int → Bytes × Int
section
variable {H G : Heap} {m : Nat} {pg : Int → Nat} {f f' : LfF} {st : Sta}
/-- May a space be changed? -/
def mayS (st : Sta) (id : Int) : Int := match afind st.sp id with | none => 80 | some x => if x.2 = true then 170 else 0
end
end Ev

namespace Ev
open Go (IntKind)

section
variable {H G : Heap} {m : Nat} {pg : Int → Nat} {f f' : LfF} {st : Sta}
theorem cnt_mem {lv : List (Int × Int)} {c : Int} (h : cnt lv c ≠ 0) : ∃ x ∈ lv, x.2 = c := by
  unfold cnt at h
  obtain ⟨x, hx⟩ := List.exists_mem_of_length_pos (Nat.pos_of_ne_zero h)
  have := List.mem_filter.1 hx
  exact ⟨x, this.1, by simpa using this.2⟩
theorem nodup_map_on {α : Type} {l : List Int} {g : Int → α} (h : l.Nodup) (hg : ∀ x ∈ l, ∀ y ∈ l, g x = g y → x = y) : (l.map g).Nodup := by
  unfold List.Nodup
  rw [List.pairwise_map]
  exact List.Pairwise.imp_of_mem (fun {a b} ha hb hne e => hne (hg a ha b hb e)) h
def fitS (st : Sta) (r : Int × Int × Int × Int × Unit) : Bool := decide ((st.lv.length : Int) ≤ r.2.1) && decide (((rfOf st.lv).length : Int) ≤ r.1)
end
end Ev

namespace Ev
open Go (IntKind)

end Ev

namespace Ev
open Go (IntKind)

/-- Pages at places of their own, from 1000 on; what they say. -/
structure Pln where
  st : Sta
  tx : List Bytes
/-- A transaction; how many changes were made. -/
structure Tx where
  p : Pln
  many : Nat
abbrev RoomT := Int × Int × Int × Int × Unit
def Tx.stepD (t : Tx) (x : RecT) (r : RoomT) : Int × Tx :=
  if 8 ≤ t.many then (171, t) else if ¬ (t.p.st.applyS x).1 = 0 then ((t.p.st.applyS x).1, t) else if fitS (t.p.st.applyS x).2 r = true then (0, ⟨⟨(t.p.st.applyS x).2, t.p.tx⟩, t.many + 1⟩) else (172, t)
def putR (t : Tx) (id p : Int) : RecT := (1, id, p, 1000 + (t.p.tx.length : Int), 0, 0, ())
def Tx.stepP (t : Tx) (id p : Int) (text : Bytes) (r : RoomT) : Int × Tx :=
  if 8 ≤ t.many then (171, t) else if ¬ (t.p.st.applyS (putR t id p)).1 = 0 then ((t.p.st.applyS (putR t id p)).1, t) else if fitS (t.p.st.applyS (putR t id p)).2 r = true then (0, ⟨⟨(t.p.st.applyS (putR t id p)).2, t.p.tx ++ [text]⟩, t.many + 1⟩) else (172, t)
def ownK (x : RecT) : Bool := decide (x.1 = 2 ∨ (4 ≤ x.1 ∧ x.1 ≤ 7))
def Tx.doS (t : Tx) (x : RecT) (r : RoomT) : Int × Tx :=
  if ownK x = true ∧ chkR x = true then (if x.1 = 2 ∧ mayS t.p.st x.2.1 ≠ 0 then (mayS t.p.st x.2.1, t) else t.stepD x r) else (1, t)
def Tx.putS (t : Tx) (id p : Int) (text : Bytes) (r : RoomT) (size : Int) : Int × Tx :=
  if size < (text.length : Int) then (173, t) else if mayS t.p.st id ≠ 0 then (mayS t.p.st id, t) else t.stepP id p text r
section
variable {p : Pln} {f : LfF} {n : Nat}
/-- Records that put no page bring no other place. -/
theorem applyS_vals {st : Sta} (w : SaW st) {x : RecT} (hk : x.1 = 2 ∨ (4 ≤ x.1 ∧ x.1 ≤ 7)) : ∀ y ∈ (st.applyS x).2.lv, ∃ z ∈ st.lv, z.2 = y.2 := by
  unfold Sta.applyS
  rw [if_neg (show ¬ x.1 = 3 by omega), if_neg (show ¬ x.1 = 8 by omega), if_neg (show ¬ x.1 = 9 by omega)]
  by_cases k4 : x.1 = 4
  · rw [if_pos k4]
    unfold Sta.openS
    split
    · exact fun y hy => ⟨y, hy, rfl⟩
    · exact fun y hy => ⟨y, hy, rfl⟩
  rw [if_neg k4]
  cases hf : afind st.sp x.2.1 with
  | none => exact fun y hy => ⟨y, hy, rfl⟩
  | some s =>
    simp only
    rw [if_neg (show ¬ x.1 = 1 by omega)]
    by_cases k2 : x.1 = 2
    · rw [if_pos k2]
      split
      · exact fun y hy => ⟨y, (adrop_sub _ _).subset hy, rfl⟩
      · exact fun y hy => ⟨y, hy, rfl⟩
    rw [if_neg k2]
    by_cases k5 : x.1 = 5
    · rw [if_pos k5]
      exact fun y hy => ⟨y, (List.mem_filter.1 hy).1, rfl⟩
    rw [if_neg k5]
    by_cases k6 : x.1 = 6
    · rw [if_pos k6]
      unfold Sta.openS
      split
      · exact fun y hy => ⟨y, hy, rfl⟩
      · intro y hy
        have hf : afind (insAll x.2.2.2.2.1 st.lv (pgs st.lv x.2.1)) y.1 = some y.2 := (insAll_asc w.lv).find hy
        rw [insAll_find y.1 w.lv (pgs_asc w.lv _)] at hf
        cases hg : afind (pgs st.lv x.2.1) (y.1 - x.2.2.2.2.1 * 1024) with
        | some u =>
          rw [hg] at hf
          cases hf
          exact ⟨_, (pgs_mem (afind_mem hg)).2.2, rfl⟩
        | none =>
          rw [hg] at hf
          exact ⟨_, afind_mem hf, rfl⟩
    rw [if_neg k6]
    exact fun y hy => ⟨y, hy, rfl⟩
end
structure MdA where
  nm : Nat
  np : Int → Nat
  om : Option Nat
  op : Int → Nat
  f : LfF
  n : Nat
end Ev

namespace Ev
open Go (IntKind)

end Ev

namespace Ev
open Go (IntKind)

end Ev

namespace Ev
open Go (IntKind)

abbrev P5 := Sl × Sl × Sl × Sl × Sl × Unit
abbrev P6 := Sl × Sl × Sl × Sl × Sl × Int × Unit
end Ev

namespace Ev
open Go (IntKind)

end Ev

namespace Ev
open Go (IntKind)

end Ev

namespace Ev
open Go (IntKind)

end Ev

namespace Ev
open Go (IntKind)

def mapV (g : Int → Int) (l : List (Int × Int)) : List (Int × Int) := l.map fun x => (x.1, g x.2)
def mapSt (g : Int → Int) (st : Sta) : Sta := ⟨st.sp, mapV g st.lv, st.bd, st.wn⟩
section
variable {g : Int → Int} {l : List (Int × Int)} {st : Sta}
theorem mapV_asc (h : Asc l) : Asc (mapV g l) := asc_map h _ fun _ => rfl
theorem mapV_find (l : List (Int × Int)) (k : Int) : afind (mapV g l) k = (afind l k).map g := by
  induction l with
  | nil => rfl
  | cons x l ih =>
    show (if x.1 = k then some (g x.2) else afind (mapV g l) k) = Option.map g (if x.1 = k then some x.2 else afind l k)
    by_cases e : x.1 = k
    · rw [if_pos e, if_pos e]; rfl
    · rw [if_neg e, if_neg e, ih]
theorem mapV_ins (h : Asc l) (k v : Int) : mapV g (ains l k v) = ains (mapV g l) k (g v) :=
  asc_ext (mapV_asc (h.ins _ _)) ((mapV_asc h).ins _ _) fun j => by
    rw [mapV_find, afind_ins h, afind_ins (mapV_asc h), mapV_find]
    by_cases e : j = k
    · rw [if_pos e, if_pos e]; rfl
    · rw [if_neg e, if_neg e]
theorem mapV_drop (h : Asc l) (k : Int) : mapV g (adrop l k) = adrop (mapV g l) k :=
  asc_ext (mapV_asc (h.drop _)) ((mapV_asc h).drop _) fun j => by
    rw [mapV_find, afind_drop h, afind_drop (mapV_asc h), mapV_find]
    by_cases e : j = k
    · rw [if_pos e, if_pos e]; rfl
    · rw [if_neg e, if_neg e]
theorem mapV_off (l : List (Int × Int)) (id : Int) : mapV g (lvOff l id) = lvOff (mapV g l) id := by
  unfold mapV lvOff
  rw [List.filter_map]; rfl
theorem mapV_pgs (l : List (Int × Int)) (id : Int) : pgs (mapV g l) id = mapV g (pgs l id) := by
  unfold mapV pgs
  rw [List.filter_map, List.map_map, List.map_map]; rfl
theorem mapV_insAll (id : Int) : ∀ (P l : List (Int × Int)), Asc l → mapV g (insAll id l P) = insAll id (mapV g l) (mapV g P)
  | [], l, _ => rfl
  | x :: P, l, h => by
    have := mapV_insAll id P (ains l (id * 1024 + x.1) x.2) (h.ins _ _)
    unfold insAll at this ⊢
    rw [List.foldl_cons, this, mapV_ins h]
    rfl
theorem mapV_len (l : List (Int × Int)) : (mapV g l).length = l.length := List.length_map _
/-- A record that puts no page. -/
theorem mapSt_apply (w : SaW st) {x : RecT} (hk : x.1 = 2 ∨ (4 ≤ x.1 ∧ x.1 ≤ 7)) : (mapSt g st).applyS x = ((st.applyS x).1, mapSt g (st.applyS x).2) := by
  unfold Sta.applyS
  rw [if_neg (show ¬ x.1 = 3 by omega), if_neg (show ¬ x.1 = 8 by omega), if_neg (show ¬ x.1 = 9 by omega), if_neg (show ¬ x.1 = 3 by omega), if_neg (show ¬ x.1 = 8 by omega), if_neg (show ¬ x.1 = 9 by omega)]
  by_cases k4 : x.1 = 4
  · rw [if_pos k4, if_pos k4]
    unfold Sta.openS
    show (if (afind st.sp x.2.1).isSome = true then _ else _) = _
    by_cases e : (afind st.sp x.2.1).isSome = true
    · rw [if_pos e, if_pos e]
    · rw [if_neg e, if_neg e]; rfl
  rw [if_neg k4, if_neg k4]
  show (match afind st.sp x.2.1 with | none => _ | some s => _) = _
  cases hf : afind st.sp x.2.1 with
  | none => rfl
  | some s =>
    simp only
    rw [if_neg (show ¬ x.1 = 1 by omega), if_neg (show ¬ x.1 = 1 by omega)]
    by_cases k2 : x.1 = 2
    · rw [if_pos k2, if_pos k2]
      have e1 : (afind (pgs (mapSt g st).lv x.2.1) x.2.2.1).isSome = (afind (pgs st.lv x.2.1) x.2.2.1).isSome := by
        show (afind (pgs (mapV g st.lv) x.2.1) x.2.2.1).isSome = _
        rw [mapV_pgs, mapV_find, Option.isSome_map]
      rw [e1]
      by_cases e : (afind (pgs st.lv x.2.1) x.2.2.1).isSome = true
      · rw [if_pos e, if_pos e]
        show (0, _) = (0, mapSt g _)
        unfold mapSt
        rw [mapV_drop w.lv]
      · rw [if_neg e, if_neg e]
    rw [if_neg k2, if_neg k2]
    by_cases k5 : x.1 = 5
    · rw [if_pos k5, if_pos k5]
      show (0, _) = (0, mapSt g _)
      unfold mapSt
      rw [mapV_off]
    rw [if_neg k5, if_neg k5]
    by_cases k6 : x.1 = 6
    · rw [if_pos k6, if_pos k6]
      unfold Sta.openS
      show (if (afind st.sp x.2.2.2.2.1).isSome = true then _ else _) = _
      by_cases e : (afind st.sp x.2.2.2.2.1).isSome = true
      · rw [if_pos e, if_pos e]
      · rw [if_neg e, if_neg e]
        show (0, _) = (0, mapSt g _)
        unfold mapSt
        rw [mapV_insAll _ _ _ w.lv, mapV_pgs]
    rw [if_neg k6, if_neg k6]
    rfl
theorem mapSt_put (w : SaW st) (id p v : Int) : (mapSt g st).applyS (1, id, p, g v, 0, 0, ()) = ((st.applyS (1, id, p, v, 0, 0, ())).1, mapSt g (st.applyS (1, id, p, v, 0, 0, ())).2) := by
  unfold Sta.applyS
  show (match afind st.sp id with | none => _ | some s => if p < 0 then _ else if s.1 ≤ p then _ else _) = _
  show _ = ((match afind st.sp id with | none => ((80, st) : Int × Sta) | some s => if p < 0 then (81, st) else if s.1 ≤ p then (81, st) else (0, ⟨st.sp, ains st.lv (id * 1024 + p) v, st.bd, st.wn⟩)).1, mapSt g (match afind st.sp id with | none => ((80, st) : Int × Sta) | some s => if p < 0 then (81, st) else if s.1 ≤ p then (81, st) else (0, ⟨st.sp, ains st.lv (id * 1024 + p) v, st.bd, st.wn⟩)).2)
  cases afind st.sp id with
  | none => rfl
  | some s =>
    simp only
    by_cases e1 : p < 0
    · rw [if_pos e1, if_pos e1]
    · rw [if_neg e1, if_neg e1]
      by_cases e2 : s.1 ≤ p
      · rw [if_pos e2, if_pos e2]
      · rw [if_neg e2, if_neg e2]
        show (0, _) = (0, mapSt g _)
        unfold mapSt
        rw [mapV_ins w.lv]
/-- As many places. -/
theorem rf_keys (lv : List (Int × Int)) (c : Int) : c ∈ (rfOf lv).map Prod.fst ↔ ∃ x ∈ lv, x.2 = c := by
  rw [← afind_isSome, (rfOf_ok lv).find]
  constructor
  · intro h
    by_cases e : cnt lv c = 0
    · rw [if_pos e] at h; cases h
    · exact cnt_mem e
  · rintro ⟨x, hx, rfl⟩
    have : cnt lv x.2 ≠ 0 := fun e => by
      unfold cnt at e
      have := List.length_eq_zero_iff.1 e
      rw [List.filter_eq_nil_iff] at this
      exact this x hx (by simp)
    rw [if_neg this]; rfl
theorem mapV_live (inj : ∀ x ∈ l, ∀ y ∈ l, g x.2 = g y.2 → x.2 = y.2) : (rfOf (mapV g l)).length = (rfOf l).length := by
  have nA : ((rfOf l).map Prod.fst).Nodup := keys_nodup (rfOf_ok _).asc
  have nB : ((rfOf (mapV g l)).map Prod.fst).Nodup := keys_nodup (rfOf_ok _).asc
  have nA' : (((rfOf l).map Prod.fst).map g).Nodup := nodup_map_on nA fun a ha b hb e => by
    obtain ⟨x, hx, rfl⟩ := (rf_keys l a).1 ha
    obtain ⟨y, hy, rfl⟩ := (rf_keys l b).1 hb
    exact inj x hx y hy e
  have h1 := nodup_len (ks := (rfOf (mapV g l)).map Prod.fst) nA' fun n hn => by
    obtain ⟨c, hc, rfl⟩ := List.mem_map.1 hn
    obtain ⟨x, hx, rfl⟩ := (rf_keys l c).1 hc
    exact (rf_keys _ _).2 ⟨(x.1, g x.2), List.mem_map.2 ⟨x, hx, rfl⟩, rfl⟩
  have h2 := nodup_len (ks := ((rfOf l).map Prod.fst).map g) nB fun n hn => by
    obtain ⟨y, hy, rfl⟩ := (rf_keys _ n).1 hn
    obtain ⟨x, hx, rfl⟩ := List.mem_map.1 hy
    exact List.mem_map.2 ⟨x.2, (rf_keys l _).2 ⟨x, hx, rfl⟩, rfl⟩
  simp only [List.length_map] at h1 h2
  omega
end
/-- Where a plain transaction's pages stand in a transaction. -/
def phi (v : Int) : Int := if v < 1000 then v else v - 488
structure TxOK (t : Tx) : Prop where
  w : SaW t.p.st
  at_ : ∀ x ∈ t.p.st.lv, (0 ≤ x.2 ∧ x.2 ≤ 511) ∨ (1000 ≤ x.2 ∧ x.2 < 1000 + (t.p.tx.length : Int))
theorem phi_inj {t : Tx} (h : TxOK t) : ∀ x ∈ t.p.st.lv, ∀ y ∈ t.p.st.lv, phi x.2 = phi y.2 → x.2 = y.2 := fun x hx y hy e => by
  have h1 := h.at_ x hx
  have h2 := h.at_ y hy
  unfold phi at e
  split at e <;> split at e <;> omega
theorem TxOK.step {t : Tx} (h : TxOK t) {x : RecT} (hc : chkR x = true) (hk : x.1 = 2 ∨ (4 ≤ x.1 ∧ x.1 ≤ 7)) (n : Nat) : TxOK ⟨⟨(t.p.st.applyS x).2, t.p.tx⟩, n⟩ := by
  have w' := h.w.doS x
  unfold Sta.doS at w'
  rw [if_pos hc] at w'
  exact ⟨w', fun y hy => by
    obtain ⟨z, hz, e⟩ := applyS_vals h.w hk y hy
    show (0 ≤ y.2 ∧ y.2 ≤ 511) ∨ (1000 ≤ y.2 ∧ y.2 < 1000 + (t.p.tx.length : Int))
    rw [← e]
    exact h.at_ z hz⟩
theorem TxOK.put {t : Tx} (h : TxOK t) (id p : Int) (text : Bytes) (n : Nat) : TxOK ⟨⟨(t.p.st.applyS (putR t id p)).2, t.p.tx ++ [text]⟩, n⟩ := by
  have hl : (t.p.tx ++ [text]).length = t.p.tx.length + 1 := by simp
  have hold : ∀ x ∈ t.p.st.lv, (0 ≤ x.2 ∧ x.2 ≤ 511) ∨ (1000 ≤ x.2 ∧ x.2 < 1000 + (((t.p.tx ++ [text]).length : Nat) : Int)) := fun x hx => by
    have := h.at_ x hx
    rw [hl]; omega
  unfold putR Sta.applyS
  show TxOK ⟨⟨(match afind t.p.st.sp id with | none => ((80, t.p.st) : Int × Sta) | some s => if p < 0 then (81, t.p.st) else if s.1 ≤ p then (81, t.p.st) else (0, ⟨t.p.st.sp, ains t.p.st.lv (id * 1024 + p) (1000 + (t.p.tx.length : Int)), t.p.st.bd, t.p.st.wn⟩)).2, t.p.tx ++ [text]⟩, n⟩
  cases hf : afind t.p.st.sp id with
  | none => exact ⟨h.w, hold⟩
  | some s =>
    have hids := h.w.ids _ (afind_mem hf)
    simp only
    by_cases e1 : p < 0
    · rw [if_pos e1]; exact ⟨h.w, hold⟩
    · rw [if_neg e1]
      by_cases e2 : s.1 ≤ p
      · rw [if_pos e2]; exact ⟨h.w, hold⟩
      · rw [if_neg e2]
        refine ⟨h.w.key hf (by have := hids.2.2; simp only at this; omega) _, fun x hx => ?_⟩
        rcases ains_mem hx with e | e
        · rw [e]
          right
          show 1000 ≤ 1000 + (t.p.tx.length : Int) ∧ 1000 + (t.p.tx.length : Int) < 1000 + (((t.p.tx ++ [text]).length : Nat) : Int)
          rw [hl]; omega
        · exact hold x e
end Ev

namespace Ev
open Go (IntKind)

def heldL : Int → List Bytes → List (Int × Bytes)
  | _, [] => []
  | n, x :: l => (n, x) :: heldL (n + 1) l
theorem heldL_low : ∀ (l : List Bytes) (n : Int), ∀ x ∈ heldL n l, n ≤ x.1 ∧ x.1 < n + (l.length : Int)
  | [], n, x, h => by cases h
  | y :: l, n, x, h => by
    rcases List.mem_cons.1 h with rfl | h
    · show n ≤ n ∧ n < n + (((y :: l).length : Nat) : Int)
      rw [List.length_cons]; omega
    · have := heldL_low l (n + 1) x h
      rw [List.length_cons]; omega
theorem heldL_snoc : ∀ (l : List Bytes) (n : Int) (x : Bytes), heldL n (l ++ [x]) = heldL n l ++ [(n + (l.length : Int), x)]
  | [], n, x => by show [(n, x)] = [(n + 0, x)]; rw [Int.add_zero]
  | y :: l, n, x => by
    show (n, y) :: heldL (n + 1) (l ++ [x]) = (n, y) :: (heldL (n + 1) l ++ _)
    rw [heldL_snoc l (n + 1) x, List.length_cons, show n + 1 + (l.length : Int) = n + ((l.length + 1 : Nat) : Int) by omega]
theorem heldL_ins (l : List Bytes) (n : Int) (x : Bytes) : ains (heldL n l) (n + (l.length : Int)) x = heldL n (l ++ [x]) := by
  rw [heldL_snoc]
  exact ains_snoc x fun y hy => (heldL_low l n y hy).2
theorem mp_ne' {H : Heap} {b c : Nat} {cs : List C} {bk : BK} {α : Type} {f : Int → α → W} {l : List (Int × α)} (h : H[c]? = some (.cells cs bk)) (hm : MpA H b f l) : c ≠ b := Ne.symm (mp_ne h hm)
def strW (_ : Int) (s : Bytes) : W := .one (.str s)
abbrev ctC : List CT := [.int .i64, .int .i64, .int .i64, .int .i64, .int .i64, .int .i64, .str]
abbrev ChT := Int × Int × Int × Int × Int × Int × Bytes × Unit
structure TnA where
  s : SaA
  sl : Sl
  h : Nat
def tnC (p : Ptr) (sl : Sl) (r : RoomT) (size : Int) (h : Nat) (next : Int) : Blk := .cells [.ptr p, .sl 7 sl, .int .i64 r.1, .int .i64 r.2.1, .int .i64 r.2.2.1, .int .i64 r.2.2.2.1, .int .i64 size, .mp (some h), .int .i64 next] .exact
/-- A transaction: over the state S, with what pages say, and what was changed. -/
structure TnAt (L : Nat) (H : Heap) (c : Nat) (A : TnA) (r : RoomT) (size : Int) (S : Sta) (tx : List Bytes) (l : List ChT) : Prop where
  cc : H[c]? = some (tnC (some (A.s.c, 0)) A.sl r size A.h (512 + (tx.length : Int)))
  ss : StAt H A.s S
  ll : Grown H 7 A.sl (rowsOf ctC l)
  ln : A.sl.len = l.length
  hh : MpA H A.h strW (heldL 512 tx)
  lo : L ≤ c ∧ L ≤ A.h
  sf : ∀ b, A.s.fp S b → L ≤ b ∧ b ≠ c ∧ b ≠ A.h ∧ ∀ o, A.sl.p ≠ some (b, o)
  lf : ∀ b o, A.sl.p = some (b, o) → L ≤ b ∧ b ≠ c ∧ b ≠ A.h
section
variable {L : Nat} {H G K : Heap} {c : Nat} {A : TnA} {r : RoomT} {size : Int} {S : Sta} {tx : List Bytes} {l : List ChT}
theorem TnAt.keep (t : TnAt L H c A r size S tx l) (k : Keep (fun _ => False) H G) : TnAt L G c A r size S tx l :=
  ⟨k.get t.cc fun hf => hf, t.ss.keep k fun _ _ hf => hf, t.ll.mono fun a ha => k.same _ (t.ll.lt ha) fun hf => hf, t.ln, t.hh.keep k fun hf => hf, t.lo, t.sf, t.lf⟩
theorem tn_New {a : SaA} (h : StAt H a S) (r : RoomT) (size : Int) : WP (txn_New (some (a.c, 0)) r size H) fun x => ∃ c A, x.1 = (some (c, 0), ()) ∧ TnAt H.length x.2 c A r size S [] [] ∧ Keep (fun _ => False) H x.2 := by
  obtain ⟨r1, r2, r3, r4, ⟨⟩⟩ := r
  have k1 := Keep.app (fun _ => False) H [.cells [.int .i64 r1, .int .i64 r2, .int .i64 r3, .int .i64 r4] .exact, .mp [] 0]
  have t0 : (H ++ [Blk.cells [.int .i64 r1, .int .i64 r2, .int .i64 r3, .int .i64 r4] .exact, .mp [] 0])[H.length]? = some (.cells [.int .i64 r1, .int .i64 r2, .int .i64 r3, .int .i64 r4] .exact) := by rw [tl_get0]; rfl
  have t1 : (H ++ [Blk.cells [.int .i64 r1, .int .i64 r2, .int .i64 r3, .int .i64 r4] .exact, .mp [] 0])[H.length + 1]? = some (.mp [] 0) := by rw [tl_get1]; rfl
  have e1 : H ++ [Blk.cells [.int .i64 r1, .int .i64 r2, .int .i64 r3, .int .i64 r4] .exact] ++ [.mp [] 0] = H ++ [Blk.cells [.int .i64 r1, .int .i64 r2, .int .i64 r3, .int .i64 r4] .exact, .mp [] 0] := by simp
  have l1 : (H ++ [Blk.cells [.int .i64 r1, .int .i64 r2, .int .i64 r3, .int .i64 r4] .exact]).length = H.length + 1 := by simp
  have l2 : (H ++ [Blk.cells [.int .i64 r1, .int .i64 r2, .int .i64 r3, .int .i64 r4] .exact, .mp [] 0]).length = H.length + 2 := by simp
  have hr0 : rd (H ++ [Blk.cells [.int .i64 r1, .int .i64 r2, .int .i64 r3, .int .i64 r4] .exact]) (.agg [.int .i64, .int .i64, .int .i64, .int .i64]) H.length 0 = (some (r1, r2, r3, r4, ()) : Option RoomT) :=
    rd_agg_of (cs := [.int .i64 r1, .int .i64 r2, .int .i64 r3, .int .i64 r4]) (bk := .exact) (by rw [tl_get0]; rfl) (by simp) rfl
  unfold txn_New
  refine wp_to hr0 ?_
  simp only
  rw [e1, l1]
  generalize H ++ [Blk.cells [.int .i64 r1, .int .i64 r2, .int .i64 r3, .int .i64 r4] .exact, .mp [] 0] = H1 at k1 t0 t1 l2 ⊢
  obtain ⟨G, a', c1, c2, c3, c4⟩ := st_copy (h.keep k1 fun _ _ hf => hf)
  have k2 := Keep.app (fun _ => False) G [tnC (some (a'.c, 0)) ⟨none, 0, 0⟩ (r1, r2, r3, r4, ()) size (H.length + 1) 512]
  have g0 := (c3.trans k2).get t0 fun hf => hf
  have g1 := (c3.trans k2).get t1 fun hf => hf
  have hGl := c3.len
  have hr1 : rd (G ++ [tnC (some (a'.c, 0)) ⟨none, 0, 0⟩ (r1, r2, r3, r4, ()) size (H.length + 1) 512]) (.agg [.int .i64, .int .i64, .int .i64, .int .i64]) H.length 0 = (some (r1, r2, r3, r4, ()) : Option RoomT) := rd_agg_of g0 (by simp) rfl
  refine wp_to c1 (wp_to hr1 (wp_ite rfl (wp_ite g1 (wp_some ⟨G.length, ⟨a', ⟨none, 0, 0⟩, H.length + 1⟩, rfl, ?_, (k1.trans c3).trans k2⟩))))
  refine ⟨by rw [tl_get0]; rfl, c2.keep k2 fun _ _ hf => hf, Grown.ni _ 7, rfl, ⟨0, g1⟩, ⟨by omega, by simp⟩, fun b hb => ?_, fun b o hp => (by cases hp)⟩
  have h1 := c4 b hb
  have h2 := c2.lt hb
  exact ⟨by omega, by omega, by show b ≠ H.length + 1; omega, fun o hp => by cases hp⟩
theorem tn_sealed (t : TnAt L H c A r size S tx l) (id : Int) : WP (txn_Txn_sealed (some (c, 0)) id H) fun x => x.1.1 = mayS S id ∧ Keep (fun _ => False) H x.2 := by
  obtain ⟨G, g1, g2⟩ := st_space t.ss id
  unfold txn_Txn_sealed
  refine wp_to (v := (c, 0)) rfl (wp_to (rdP_of t.cc (n := some (A.s.c, 0)) rfl) (wp_to g1 (wp_tmp4 ?_)))
  have k2 := Keep.app (fun _ => False) G [.cells [.int .i64 (spI S id).1, .int .i64 (spI S id).2.1, .int .i64 (spI S id).2.2.1, .bool (spI S id).2.2.2.1] .exact]
  cases hx : afind S.sp id with
  | none =>
    refine wp_t rfl (wp_some ⟨?_, g2.trans k2⟩)
    unfold mayS
    rw [hx]
  | some y =>
    have hsp := spI_at S hx
    have t0 : (G ++ [Blk.cells [.int .i64 (spI S id).1, .int .i64 (spI S id).2.1, .int .i64 (spI S id).2.2.1, .bool (spI S id).2.2.2.1] .exact])[G.length]? = some (.cells [.int .i64 (spI S id).1, .int .i64 (spI S id).2.1, .int .i64 (spI S id).2.2.1, .bool (spI S id).2.2.2.1] .exact) := by rw [tl_get0]; rfl
    have hb : (spI S id).2.2.2.1 = y.2 := by rw [hsp]
    refine wp_f rfl (wp_to (rdB_of t0 (n := (spI S id).2.2.2.1) rfl) ?_)
    rw [hb] at k2 ⊢
    refine wp_c (fun e => wp_some ⟨?_, g2.trans k2⟩) (fun e => wp_some ⟨?_, g2.trans k2⟩)
    · unfold mayS; rw [hx]; simp only [if_pos (show y.2 = true from e)]
    · unfold mayS; rw [hx]; simp only [if_neg (show ¬ y.2 = true by rw [e]; decide)]
theorem tn_Get (t : TnAt L H c A r size S tx l) (id p : Int) : txn_Txn_Get (some (c, 0)) id p H = some (((afind (heldL 512 tx) ((afind (pgs S.lv id) p).getD 0)).getD [], (afind (pgs S.lv id) p).getD 0, (afind (pgs S.lv id) p).isSome, ()), H) := by
  have hg : mget H (.one .str) (.one (.str [])) (some A.h) ((afind (pgs S.lv id) p).getD 0) = some ((afind (heldL 512 tx) ((afind (pgs S.lv id) p).getD 0)).getD [], (afind (heldL 512 tx) ((afind (pgs S.lv id) p).getD 0)).isSome) := by
    refine t.hh.get _ _ _ ?_
    cases afind (heldL 512 tx) ((afind (pgs S.lv id) p).getD 0) <;> rfl
  unfold txn_Txn_Get
  show (rdP H c 0).bind _ = _
  rw [rdP_of t.cc (n := some (A.s.c, 0)) rfl]
  refine (bind_to (st_get t.ss id p)).trans ?_
  show (rdM H c (0 + 7)).bind _ = _
  rw [rdM_of t.cc (n := some A.h) rfl]
  exact (bind_to hg).trans rfl
theorem tn_Spaces (t : TnAt L H c A r size S tx l) : WP (txn_Txn_Spaces (some (c, 0)) H) fun x => ∃ s, x.1 = (s, ()) ∧ Row x.2 4 s (rowsOf ctI (infos S)) ∧ s.len = S.sp.length ∧ Keep (fun _ => False) H x.2 := by
  obtain ⟨s, G, g1, g2, g3⟩ := st_spaces t.ss
  unfold txn_Txn_Spaces
  exact wp_f rfl (wp_to (v := (c, 0)) rfl (wp_to (rdP_of t.cc (n := some (A.s.c, 0)) rfl) (wp_to g1 (wp_some ⟨s, rfl, Row.grown g2.g, g3, g2.calm rfl⟩))))
theorem tn_Changes (t : TnAt L H c A r size S tx l) (hl : l.length ≤ 1000) : WP (txn_Txn_Changes (some (c, 0)) H) fun x => ∃ s, x.1 = (s, ()) ∧ Row x.2 7 s (rowsOf ctC l) ∧ s.len = l.length ∧ Keep (fun _ => False) H x.2 := by
  unfold txn_Txn_Changes
  refine wp_f rfl (wp_to (v := (c, 0)) rfl (wp_to (rdSl_of t.cc (n := A.sl) rfl) ?_))
  unfold slices_Clone_api_Change_api_Change
  have hlen : (rowsOf ctC l).length = A.sl.len * 7 := t.ll.len
  cases hp : A.sl.p with
  | none =>
    have h0 := t.ll.nil hp
    have hl0 : l = [] := by
      have := t.ln
      exact List.length_eq_zero_iff.1 (by omega)
    subst hl0
    exact wp_bind (wp_t rfl (wp_some (wp_some ⟨⟨none, 0, 0⟩, rfl, ⟨rfl, fun _ => rfl⟩, rfl, Keep.refl _ _⟩)))
  | some a =>
    have k1 := Keep.app (fun _ => False) H [.cells [] .exact]
    have b1 : (H ++ [Blk.cells [] .exact])[H.length]? = some (.cells [] .exact) := by rw [tl_get0]; rfl
    have hg : Grown (H ++ [Blk.cells [] .exact]) 7 A.sl (rowsOf ctC l) := t.ll.mono fun a ha => k1.same _ (t.ll.lt ha) fun hf => hf
    have h0 : Grown (H ++ [Blk.cells [] .exact]) 7 ⟨some (H.length, 0), 0, 0⟩ [] := ⟨rfl, rfl, fun hh => (by cases hh), fun a ha => by cases ha; exact ⟨rfl, .inr b1⟩⟩
    refine wp_bind (wp_f rfl (wp_to hg.row ?_))
    have kH : ∀ {K : Heap}, Keep (fun b => ∃ o, (⟨some (H.length, 0), 0, 0⟩ : Sl).p = some (b, o)) (H ++ [Blk.cells [] .exact]) K → Keep (fun _ => False) H K := fun k => ⟨by have := k.len; simp only [List.length_append] at this; omega, fun b hb _ => by
      rw [k.same b (by simp only [List.length_append]; omega) fun ⟨o, ho⟩ => by cases ho; omega]
      exact List.getElem?_append_left hb⟩
    cases hn : A.sl.len with
    | zero =>
      have hl0 : l = [] := by
        have := t.ln
        exact List.length_eq_zero_iff.1 (by omega)
      subst hl0
      exact wp_to (v := (⟨some (H.length, 0), 0, 0⟩, H ++ [Blk.cells [] .exact])) rfl (wp_some (wp_some ⟨_, rfl, Row.grown h0, rfl, k1⟩))
    | succ n =>
      have hln := t.ln
      obtain ⟨e1, e2⟩ := h0.app (bytes := 64) (by decide) (n := n + 1) (new := rowsOf ctC l) (by omega) (by rw [hlen, hn]) (by simp only; omega) (by simp only; omega)
      rw [List.nil_append] at e1 e2
      exact wp_to e1 (wp_some (wp_some ⟨_, rfl, Row.grown e2, by simp; omega, kH (grownH_keep _ _ _)⟩))
end
end Ev

namespace Ev
open Go (IntKind)

section
variable {L : Nat} {H G K : Heap} {c : Nat} {A : TnA} {r : RoomT} {size : Int} {S S' : Sta} {tx : List Bytes} {l : List ChT}
/-- What the change has come to, once the copy is changed. -/
def TakeQ (L : Nat) (G : Heap) (c : Nat) (A : TnA) (a' : SaA) (r : RoomT) (size : Int) (S S' : Sta) (tx : List Bytes) (l : List ChT) (ch : ChT) (y : (Int × Unit) × Heap) : Prop :=
  if fitS S' r = true then y.1.1 = 0 ∧ Keep (fun b => b = c ∨ ∃ o, A.sl.p = some (b, o)) G y.2 ∧ ∃ A', A'.h = A.h ∧ A'.s = a' ∧ (∀ b o, A'.sl.p = some (b, o) → G.length ≤ b) ∧ TnAt L y.2 c A' r size S' tx (l ++ [ch])
  else y.1.1 = 172 ∧ Keep (fun _ => False) G y.2
theorem tn_tail (t : TnAt L G c A r size S tx l) {a' : SaA} (hs : StAt G a' S') (hf : ∀ b, a'.fp S' b → L ≤ b ∧ b ≠ c ∧ b ≠ A.h ∧ ∀ o, A.sl.p ≠ some (b, o)) {H0 : Heap} {B : Nat} (hB : H0.length = B) {ch : ChT} (hb : G[B]? = some (.cells [.int .i64 ch.1, .int .i64 ch.2.1, .int .i64 ch.2.2.1, .int .i64 ch.2.2.2.1, .int .i64 ch.2.2.2.2.1, .int .i64 ch.2.2.2.2.2.1, .str ch.2.2.2.2.2.2.1] .exact)) (h8 : l.length < 8) :
    WP (((some (c, 0) : Ptr)).bind fun (a8 : Nat × Nat) =>
 (rdI .i64 G a8.1 (a8.2 + 2)).bind fun (v9 : Int) =>
 (state_State_Live (some (a'.c, 0)) G).bind fun (r10 : ((Int × Unit) × Heap)) =>
 cond (decide (v9 < r10.1.1)) (
 (rdI .i64 r10.2 a8.1 (a8.2 + 2)).bind fun (v11 : Int) =>
 if V.w (.one (.int .i64 v11)) = V.w (.one (.int .i64 v9)) then
 some ((172, ()), r10.2)
 else none) (
 ((some (c, 0) : Ptr)).bind fun (a12 : Nat × Nat) =>
 (rdI .i64 r10.2 a12.1 (a12.2 + 3)).bind fun (v13 : Int) =>
 (rdI .i64 r10.2 a8.1 (a8.2 + 2)).bind fun (v14 : Int) =>
 if V.w (.one (.int .i64 v14)) = V.w (.one (.int .i64 v9)) then
 (state_State_Keys (some (a'.c, 0)) r10.2).bind fun (r15 : ((Int × Unit) × Heap)) =>
 (rdI .i64 r15.2 a12.1 (a12.2 + 3)).bind fun (v16 : Int) =>
 if V.w (.one (.int .i64 v16)) = V.w (.one (.int .i64 v13)) then
 cond (decide (v13 < r15.1.1)) (
 some ((172, ()), r15.2)) (
 ((some (c, 0) : Ptr)).bind fun (a17 : Nat × Nat) =>
 (rdSl 7 r15.2 a17.1 (a17.2 + 1)).bind fun (v18 : Sl) =>
 Option.bind (α := ChT) (rd r15.2 (.agg [.int .i64, .int .i64, .int .i64, .int .i64, .int .i64, .int .i64, .str]) H0.length 0) fun (v19 : ChT) =>
 let H20 : Heap := r15.2 ++ [Blk.cells [.int .i64 v19.1, .int .i64 v19.2.1, .int .i64 v19.2.2.1, .int .i64 v19.2.2.2.1, .int .i64 v19.2.2.2.2.1, .int .i64 v19.2.2.2.2.2.1, .str v19.2.2.2.2.2.2.1] .exact]
 (slRow H20 7 (⟨some (r15.2.length, 0), 1, 1⟩)).bind fun (cs21 : (List C)) =>
 (appS H20 7 64 v18 1 cs21).bind fun (p22 : (Sl × Heap)) =>
 ((some (c, 0) : Ptr)).bind fun (a23 : Nat × Nat) =>
 (wr p22.2 a23.1 a23.2 [.ptr (some (a'.c, 0))]).bind fun (H24 : Heap) =>
 ((some (c, 0) : Ptr)).bind fun (a25 : Nat × Nat) =>
 (wr H24 a25.1 (a25.2 + 1) [.sl 7 p22.1]).bind fun (H26 : Heap) =>
 some ((0, ()), H26))
 else none
 else none)) (TakeQ L G c A a' r size S S' tx l ch) := by
  obtain ⟨G2, g1, k2⟩ := st_keys hs
  have t2 := t.keep k2
  have hs2 := hs.keep k2 fun _ _ hf => hf
  have hb2 := k2.get hb fun hf => hf
  unfold TakeQ fitS
  refine wp_to (v := (c, 0)) rfl (wp_to (rdI_of t.cc (n := r.1) rfl) (wp_to (st_live hs) (wp_if (p := r.1 < ((rfOf S'.lv).length : Int)) rfl (fun e => ?_) (fun e => ?_))))
  · refine wp_to (rdI_of t.cc (n := r.1) rfl) (wp_ite rfl (wp_some ?_))
    rw [decide_eq_false (show ¬ ((rfOf S'.lv).length : Int) ≤ r.1 by omega), Bool.and_false]
    simp only [Bool.false_eq_true, if_false]
    exact ⟨trivial, Keep.refl _ _⟩
  rw [decide_eq_true (show ((rfOf S'.lv).length : Int) ≤ r.1 by omega), Bool.and_true]
  refine wp_to (v := (c, 0)) rfl (wp_to (rdI_of t.cc (n := r.2.1) rfl) (wp_to (rdI_of t.cc (n := r.1) rfl) (wp_ite rfl (wp_to g1 (wp_to (rdI_of t2.cc (n := r.2.1) rfl) (wp_ite rfl (wp_if (p := r.2.1 < (S'.lv.length : Int)) rfl (fun e2 => ?_) (fun e2 => ?_))))))))
  · rw [decide_eq_false (show ¬ (S'.lv.length : Int) ≤ r.2.1 by omega)]
    simp only [Bool.false_eq_true, if_false]
    exact wp_some ⟨rfl, k2⟩
  rw [decide_eq_true (show (S'.lv.length : Int) ≤ r.2.1 by omega)]
  simp only [if_true]
  have hln := t.ln
  have hcs : Tup.mk ctC ch = [.int .i64 ch.1, .int .i64 ch.2.1, .int .i64 ch.2.2.1, .int .i64 ch.2.2.2.1, .int .i64 ch.2.2.2.2.1, .int .i64 ch.2.2.2.2.2.1, .str ch.2.2.2.2.2.2.1] := rfl
  rw [hB]
  refine wp_to (v := (c, 0)) rfl (wp_to (rdSl_of t2.cc (n := A.sl) rfl) (wp_to (v := (ch : ChT)) (rd_agg_of hb2 (by simp) rfl) ?_))
  refine wp_appk (Em.start t2.ll) rfl (by decide) (by omega) fun s' G3 hE hn hk hlow => ?_
  have hcl := get_lt t2.cc
  have hoffc : ∀ o, A.sl.p ≠ some (c, o) := fun o hp => (t.lf c o hp).2.1 rfl
  have c3 : G3[c]? = some (tnC (some (A.s.c, 0)) A.sl r size A.h (512 + (tx.length : Int))) := hk _ _ t2.cc hoffc
  have hw1 : wr G3 c 0 [.ptr (some (a'.c, 0))] = some (G3.set c (tnC (some (a'.c, 0)) A.sl r size A.h (512 + (tx.length : Int)))) := by
    rw [wr1_of c3 (by decide) (by simp)]; rfl
  have c4 : (G3.set c (tnC (some (a'.c, 0)) A.sl r size A.h (512 + (tx.length : Int))))[c]? = some (tnC (some (a'.c, 0)) A.sl r size A.h (512 + (tx.length : Int))) := set_get (get_lt c3)
  have hw2 : wr (G3.set c (tnC (some (a'.c, 0)) A.sl r size A.h (512 + (tx.length : Int)))) c (0 + 1) [.sl 7 s'] = some (G3.set c (tnC (some (a'.c, 0)) s' r size A.h (512 + (tx.length : Int)))) := by
    rw [wr1_of c4 (by decide) (by simp), List.set_set]; rfl
  have kk : Keep (fun b => b = c) G3 (G3.set c (tnC (some (a'.c, 0)) s' r size A.h (512 + (tx.length : Int)))) := Keep.set _ _ _ rfl
  have kE : Keep (fun b => ∃ o, A.sl.p = some (b, o)) G2 G3 := hE.k
  have hs3 := hs2.keep kE fun b hb' ⟨o, ho⟩ => (hf b hb').2.2.2 o ho
  have hs4 := hs3.keep kk fun b hb' e => (hf b hb').2.1 e
  have hh3 := t2.hh.keep kE fun ⟨o, ho⟩ => (t.lf _ o ho).2.2 rfl
  have hcl2 := get_lt t.cc
  have hhl := t.hh.lt
  have hG2l := k2.len
  have hcne : c ≠ A.h := mp_ne' t.cc t.hh
  refine wp_to (v := (c, 0)) rfl (wp_to hw1 (wp_to (v := (c, 0)) rfl (wp_to hw2 (wp_some ⟨rfl, ?_, ⟨a', s', A.h⟩, rfl, rfl, fun b o hp => by have := hlow b o hp; omega, ?_⟩))))
  · exact ((k2.mono fun _ hf => hf.elim).trans (kE.mono fun b ho => .inr ho)).trans (kk.mono fun b e => .inl e)
  · refine ⟨set_get (get_lt c3), hs4, ?_, ?_, hh3.keep kk (Ne.symm hcne), t.lo, fun b hb' => ⟨(hf b hb').1, (hf b hb').2.1, (hf b hb').2.2.1, fun o hp => ?_⟩, fun b o hp => ?_⟩
    · have : rowsOf ctC (l ++ [ch]) = rowsOf ctC l ++ Tup.mk ctC ch := rowsOf_snoc (cts := ctC) l ch
      rw [this]
      refine hE.g.mono fun a ha => ?_
      have h1 := hlow _ _ (show s'.p = some (a.1, a.2) from ha)
      exact set_get' (by omega)
    · show s'.len = (l ++ [ch]).length
      rw [hn, t.ln, List.length_append]; rfl
    · have h1 := hlow b o hp
      have h2 := hs2.lt hb'
      omega
    · have h1 := hlow b o hp
      have h3 := t.lo
      exact ⟨by omega, by omega, by show b ≠ A.h; omega⟩
end
end Ev

namespace Ev
open Go (IntKind)

def errS (n : Nat) (res : Int × Sta) (r : RoomT) : Int := if 8 ≤ n then 171 else if ¬ res.1 = 0 then res.1 else if fitS res.2 r = true then 0 else 172
section
variable {L : Nat} {H G K : Heap} {c : Nat} {A : TnA} {r : RoomT} {size : Int} {S S' : Sta} {tx : List Bytes} {l : List ChT}
/-- What a change has come to. -/
structure StepQ (L : Nat) (H : Heap) (c : Nat) (A : TnA) (r : RoomT) (size : Int) (res : Int × Sta) (tx : List Bytes) (l : List ChT) (ch : ChT) (y : (Int × Unit) × Heap) : Prop where
  e : y.1.1 = errS l.length res r
  no : ¬ errS l.length res r = 0 → Keep (fun _ => False) H y.2
  ok : errS l.length res r = 0 → Keep (fun b => b = c ∨ ∃ o, A.sl.p = some (b, o)) H y.2 ∧ ∃ A', A'.h = A.h ∧ (∀ b o, A'.sl.p = some (b, o) → H.length ≤ b) ∧ (∀ b, A'.s.fp res.2 b → H.length ≤ b) ∧ TnAt L y.2 c A' r size res.2 tx (l ++ [ch])
theorem tn_step (t : TnAt L H c A r size S tx l) (F : Ptr → Heap → Option ((Int × Unit) × Heap)) (res : Int × Sta) (ch : ChT)
    (hF : ∀ G a', StAt G a' S → Keep (fun _ => False) H G → ∃ G' a'', F (some (a'.c, 0)) G = some ((res.1, ()), G') ∧ Res G a' S G' a'' res.2) :
    WP (let H1 : Heap := H ++ [Blk.cells [.int .i64 ch.1, .int .i64 ch.2.1, .int .i64 ch.2.2.1, .int .i64 ch.2.2.2.1, .int .i64 ch.2.2.2.2.1, .int .i64 ch.2.2.2.2.2.1, .str ch.2.2.2.2.2.2.1] .exact]
 ((some (c, 0) : Ptr)).bind fun (a2 : Nat × Nat) =>
 (rdSl 7 H1 a2.1 (a2.2 + 1)).bind fun (v3 : Sl) =>
 cond (decide (8 ≤ (v3.len : Int))) (
 some ((171, ()), H1)) (
 ((some (c, 0) : Ptr)).bind fun (a4 : Nat × Nat) =>
 (rdP H1 a4.1 a4.2).bind fun (v5 : Ptr) =>
 (state_State_Copy v5 H1).bind fun (r6 : ((Ptr × Unit) × Heap)) =>
 (F r6.1.1 r6.2).bind fun (r7 : ((Int × Unit) × Heap)) =>
 cond (!decide (r7.1.1 = 0)) (
 some ((r7.1.1, ()), r7.2)) (
 ((some (c, 0) : Ptr)).bind fun (a8 : Nat × Nat) =>
 (rdI .i64 r7.2 a8.1 (a8.2 + 2)).bind fun (v9 : Int) =>
 (state_State_Live r6.1.1 r7.2).bind fun (r10 : ((Int × Unit) × Heap)) =>
 cond (decide (v9 < r10.1.1)) (
 (rdI .i64 r10.2 a8.1 (a8.2 + 2)).bind fun (v11 : Int) =>
 if V.w (.one (.int .i64 v11)) = V.w (.one (.int .i64 v9)) then
 some ((172, ()), r10.2)
 else none) (
 ((some (c, 0) : Ptr)).bind fun (a12 : Nat × Nat) =>
 (rdI .i64 r10.2 a12.1 (a12.2 + 3)).bind fun (v13 : Int) =>
 (rdI .i64 r10.2 a8.1 (a8.2 + 2)).bind fun (v14 : Int) =>
 if V.w (.one (.int .i64 v14)) = V.w (.one (.int .i64 v9)) then
 (state_State_Keys r6.1.1 r10.2).bind fun (r15 : ((Int × Unit) × Heap)) =>
 (rdI .i64 r15.2 a12.1 (a12.2 + 3)).bind fun (v16 : Int) =>
 if V.w (.one (.int .i64 v16)) = V.w (.one (.int .i64 v13)) then
 cond (decide (v13 < r15.1.1)) (
 some ((172, ()), r15.2)) (
 ((some (c, 0) : Ptr)).bind fun (a17 : Nat × Nat) =>
 (rdSl 7 r15.2 a17.1 (a17.2 + 1)).bind fun (v18 : Sl) =>
 Option.bind (α := (Int × Int × Int × Int × Int × Int × Bytes × Unit)) (rd r15.2 (.agg [.int .i64, .int .i64, .int .i64, .int .i64, .int .i64, .int .i64, .str]) H.length 0) fun (v19 : (Int × Int × Int × Int × Int × Int × Bytes × Unit)) =>
 let H20 : Heap := r15.2 ++ [Blk.cells [.int .i64 v19.1, .int .i64 v19.2.1, .int .i64 v19.2.2.1, .int .i64 v19.2.2.2.1, .int .i64 v19.2.2.2.2.1, .int .i64 v19.2.2.2.2.2.1, .str v19.2.2.2.2.2.2.1] .exact]
 (slRow H20 7 (⟨some (r15.2.length, 0), 1, 1⟩)).bind fun (cs21 : (List C)) =>
 (appS H20 7 64 v18 1 cs21).bind fun (p22 : (Sl × Heap)) =>
 ((some (c, 0) : Ptr)).bind fun (a23 : Nat × Nat) =>
 (wr p22.2 a23.1 a23.2 [.ptr r6.1.1]).bind fun (H24 : Heap) =>
 ((some (c, 0) : Ptr)).bind fun (a25 : Nat × Nat) =>
 (wr H24 a25.1 (a25.2 + 1) [.sl 7 p22.1]).bind fun (H26 : Heap) =>
 some ((0, ()), H26))
 else none
 else none)))) (StepQ L H c A r size res tx l ch) := by
  have k1 := Keep.app (fun _ => False) H [.cells [.int .i64 ch.1, .int .i64 ch.2.1, .int .i64 ch.2.2.1, .int .i64 ch.2.2.2.1, .int .i64 ch.2.2.2.2.1, .int .i64 ch.2.2.2.2.2.1, .str ch.2.2.2.2.2.2.1] .exact]
  have hB : (H ++ [Blk.cells [.int .i64 ch.1, .int .i64 ch.2.1, .int .i64 ch.2.2.1, .int .i64 ch.2.2.2.1, .int .i64 ch.2.2.2.2.1, .int .i64 ch.2.2.2.2.2.1, .str ch.2.2.2.2.2.2.1] .exact])[H.length]? = some (.cells [.int .i64 ch.1, .int .i64 ch.2.1, .int .i64 ch.2.2.1, .int .i64 ch.2.2.2.1, .int .i64 ch.2.2.2.2.1, .int .i64 ch.2.2.2.2.2.1, .str ch.2.2.2.2.2.2.1] .exact) := by rw [tl_get0]; rfl
  have t1 := t.keep k1
  have hln := t.ln
  have hcl := get_lt t.cc
  have hhl := t.hh.lt
  refine wp_to (v := (c, 0)) rfl (wp_to (rdSl_of t1.cc (n := A.sl) rfl) (wp_if (p := 8 ≤ (A.sl.len : Int)) rfl (fun e => ?_) (fun e => ?_)))
  · have e8 : errS l.length res r = 171 := by unfold errS; rw [if_pos (show 8 ≤ l.length by omega)]
    exact wp_some ⟨e8.symm, fun _ => k1, fun h0 => absurd (e8.symm.trans h0) (by decide)⟩
  have h8 : l.length < 8 := by omega
  obtain ⟨G, a', c1, c2, c3, c4⟩ := st_copy t1.ss
  obtain ⟨G', a'', f1, f2⟩ := hF G a' c2 (k1.trans c3)
  have hH1 := k1.len
  have hnew : ∀ b, a''.fp res.2 b → H.length ≤ b := fun b hb => (f2.n b hb).elim (fun hh => by have := c4 b hh; omega) (fun hh => by have := c3.len; omega)
  have kk : Keep (fun _ => False) H G' := ⟨by have := c3.len; have := f2.k.len; omega, fun b hb _ => by
    rw [f2.k.same b (by have := c3.len; omega) fun hf => by have := c4 b hf; omega]
    exact (k1.trans c3).same b hb fun hf => hf⟩
  have kB : G'[H.length]? = some (.cells [.int .i64 ch.1, .int .i64 ch.2.1, .int .i64 ch.2.2.1, .int .i64 ch.2.2.2.1, .int .i64 ch.2.2.2.2.1, .int .i64 ch.2.2.2.2.2.1, .str ch.2.2.2.2.2.2.1] .exact) := by
    have hb2 := c3.get hB fun hf => hf
    exact f2.k.get hb2 fun hf => by have := c4 _ hf; have := get_lt hB; omega
  refine wp_to (v := (c, 0)) rfl (wp_to (rdP_of t1.cc (n := some (A.s.c, 0)) rfl) (wp_to c1 (wp_to f1 (wp_if (p := ¬ res.1 = 0) (by simp) (fun e0 => ?_) (fun e0 => ?_)))))
  · have e8 : errS l.length res r = res.1 := by unfold errS; rw [if_neg (show ¬ 8 ≤ l.length by omega), if_pos e0]
    exact wp_some ⟨e8.symm, fun _ => kk, fun h0 => absurd (e8.symm.trans h0) e0⟩
  have e0' : res.1 = 0 := Decidable.byContradiction e0
  have tk := t.keep kk
  have hL := t.lo
  have hq := tn_tail (H0 := H) (B := H.length) tk f2.s (fun b hb => ⟨by have := hnew b hb; omega, by have := hnew b hb; omega, by have := hnew b hb; omega, fun o hp => by have := hnew b hb; have := t.ll.lt hp; simp only at this; omega⟩) rfl (ch := ch) kB h8
  have hnew' := hnew
  rw [f2.c] at hq
  refine wp_mono hq fun y hy => ?_
  unfold TakeQ at hy
  by_cases ef : fitS res.2 r = true
  · have e8 : errS l.length res r = 0 := by unfold errS; rw [if_neg (show ¬ 8 ≤ l.length by omega), if_neg e0, if_pos ef]
    rw [if_pos ef] at hy
    exact ⟨hy.1.trans e8.symm, fun hn => absurd e8 hn, fun _ => ⟨(kk.mono fun _ hf => hf.elim).trans hy.2.1, by
      obtain ⟨A', a1, a0, a2, a3⟩ := hy.2.2
      exact ⟨A', a1, fun b o hp => by have := a2 b o hp; have := kk.len; omega, fun b hb => by rw [a0] at hb; exact hnew' b hb, a3⟩⟩⟩
  · have e8 : errS l.length res r = 172 := by unfold errS; rw [if_neg (show ¬ 8 ≤ l.length by omega), if_neg e0, if_neg ef]
    rw [if_neg ef] at hy
    exact ⟨hy.1.trans e8.symm, fun _ => kk.trans hy.2, fun h0 => absurd (e8.symm.trans h0) (by decide)⟩
/-- The change of a record. -/
theorem tn_stepD (t : TnAt L H c A r size S tx l) {x : RecT} (hc : chkR x = true) {e : Nat} (he : H[e]? = some (recB x)) (text : Bytes) :
    WP (txn_Txn_do_of_txn_Txn_Do_1 (some (c, 0)) (x.1, x.2.1, x.2.2.1, x.2.2.2.1, x.2.2.2.2.1, x.2.2.2.2.2.1, text, ()) (some (e, 0), ()) H) (StepQ L H c A r size (S.applyS x) tx l (x.1, x.2.1, x.2.2.1, x.2.2.2.1, x.2.2.2.2.1, x.2.2.2.2.2.1, text, ())) := by
  refine tn_step t (fun p G => txn_Txn_Do_1 p (some (e, 0)) G) (S.applyS x) (x.1, x.2.1, x.2.2.1, x.2.2.2.1, x.2.2.2.2.1, x.2.2.2.2.2.1, text, ()) fun G a' hs hk => ?_
  have he' := hk.get he fun hf => hf
  obtain ⟨G', a'', g1, g2⟩ := st_Apply hs x
  unfold Sta.doS at g1 g2
  rw [if_pos hc] at g1 g2
  refine ⟨G', a'', ?_, g2⟩
  show txn_Txn_Do_1 (some (a'.c, 0)) (some (e, 0)) G = _
  unfold txn_Txn_Do_1
  have hr : rd G (.agg [.int .i64, .int .i64, .int .i64, .int .i64, .int .i64, .int .i64]) e 0 = (some x : Option RecT) := rd_agg_of he' (by simp) rfl
  exact (bind_to hr).trans ((bind_to g1).trans rfl)
def putN (tx : List Bytes) (id p : Int) : RecT := (1, id, p, 512 + (tx.length : Int), 0, 0, ())
/-- The change that puts a page. -/
theorem tn_stepP (t : TnAt L H c A r size S tx l) {id p : Int} {ch : ChT} {e1 e2 e3 : Nat} (h1 : H[e1]? = some (.cells [.int .i64 id] .exact)) (h2 : H[e2]? = some (.cells [.int .i64 p] .exact)) (h3 : H[e3]? = some (.cells [.ptr (some (c, 0))] .exact)) :
    WP (txn_Txn_do_of_txn_Txn_Put_1 (some (c, 0)) ch (some (e1, 0), some (e2, 0), some (e3, 0), ()) H) (StepQ L H c A r size (S.applyS (putN tx id p)) tx l ch) := by
  refine tn_step t (fun q G => txn_Txn_Put_1 q (some (e1, 0)) (some (e2, 0)) (some (e3, 0)) G) (S.applyS (putN tx id p)) ch fun G a' hs hk => ?_
  have h1' := hk.get h1 fun hf => hf
  have h2' := hk.get h2 fun hf => hf
  have h3' := hk.get h3 fun hf => hf
  have hc' := hk.get t.cc fun hf => hf
  obtain ⟨G', a'', g1, g2⟩ := st_Lay hs (id := id) (p := p) (pl := 512 + (tx.length : Int)) (by omega)
  refine ⟨G', a'', ?_, g2⟩
  show txn_Txn_Put_1 (some (a'.c, 0)) (some (e1, 0)) (some (e2, 0)) (some (e3, 0)) G = _
  unfold txn_Txn_Put_1
  exact (bind_to (show (some (e1, 0) : Ptr) = some (e1, 0) from rfl)).trans ((bind_to (rdI_of h1' (n := id) rfl)).trans ((bind_to (show (some (e2, 0) : Ptr) = some (e2, 0) from rfl)).trans ((bind_to (rdI_of h2' (n := p) rfl)).trans ((bind_to (show (some (e3, 0) : Ptr) = some (e3, 0) from rfl)).trans ((bind_to (rdP_of h3' (n := some (c, 0)) rfl)).trans ((bind_to (show (some (c, 0) : Ptr) = some (c, 0) from rfl)).trans ((bind_to (rdI_of hc' (n := 512 + (tx.length : Int)) rfl)).trans ((bind_to g1).trans rfl))))))))
end
end Ev

namespace Ev
open Go (IntKind)

/-- A transaction that does what a plain one does. -/
structure TnT (L : Nat) (H : Heap) (c : Nat) (A : TnA) (r : RoomT) (size : Int) (t : Tx) (l : List ChT) : Prop where
  a : TnAt L H c A r size (mapSt phi t.p.st) t.p.tx l
  n : l.length = t.many
  few : t.p.tx.length ≤ t.many ∧ t.many ≤ 8
  ok : TxOK t
def chOf (x : RecT) (text : Bytes) : ChT := (x.1, x.2.1, x.2.2.1, x.2.2.2.1, x.2.2.2.2.1, x.2.2.2.2.2.1, text, ())
/-- What a transaction writes. -/
def TnA.fp (A : TnA) (c b : Nat) : Prop := b = c ∨ b = A.h ∨ ∃ o, A.sl.p = some (b, o)
/-- What comes of a change. -/
structure TnQ (L : Nat) (H : Heap) (c : Nat) (A : TnA) (r : RoomT) (size : Int) (t : Tx) (w : Int × Tx) (l : List ChT) (ch : ChT) (y : (Int × Unit) × Heap) : Prop where
  e : y.1.1 = w.1
  k : Keep (A.fp c) H y.2
  t : ∃ A', TnT L y.2 c A' r size w.2 (if w.1 = 0 then l ++ [ch] else l) ∧ (∀ b, A'.fp c b → A.fp c b ∨ H.length ≤ b) ∧ ∀ b, A'.s.fp (mapSt phi w.2.p.st) b → A.s.fp (mapSt phi t.p.st) b ∨ H.length ≤ b
section
variable {L : Nat} {H G K : Heap} {c : Nat} {A : TnA} {r : RoomT} {size : Int} {t t' : Tx} {l : List ChT}
theorem fit_map (h : TxOK t) : fitS (mapSt phi t.p.st) r = fitS t.p.st r := by
  unfold fitS
  show (decide (((mapV phi t.p.st.lv).length : Int) ≤ r.2.1) && decide (((rfOf (mapV phi t.p.st.lv)).length : Int) ≤ r.1)) = _
  rw [mapV_len, mapV_live (phi_inj h)]
theorem TnT.keep (h : TnT L H c A r size t l) (k : Keep (fun _ => False) H G) : TnT L G c A r size t l := ⟨h.a.keep k, h.n, h.few, h.ok⟩
theorem own_kind {x : RecT} (h : ownK x = true) : x.1 = 2 ∨ (4 ≤ x.1 ∧ x.1 ≤ 7) := by
  unfold ownK at h
  exact of_decide_eq_true h
theorem TnQ.bad {w : Int × Tx} {ch : ChT} {y : (Int × Unit) × Heap} (h : TnT L H c A r size t l) (e : y.1.1 = w.1) (k : Keep (fun _ => False) H y.2) (hw : w.2 = t) (h0 : ¬ w.1 = 0) : TnQ L H c A r size t w l ch y :=
  ⟨e, k.mono fun _ hf => hf.elim, A, by rw [if_neg h0, hw]; exact h.keep k, fun _ hb => .inl hb, fun b hb => .inl (by rw [hw] at hb; exact hb)⟩
theorem stepD_ok {x : RecT} {r : RoomT} (h : errS t.many (t.p.st.applyS x) r = 0) : ¬ 8 ≤ t.many ∧ t.stepD x r = (0, ⟨⟨(t.p.st.applyS x).2, t.p.tx⟩, t.many + 1⟩) := by
  unfold errS at h
  unfold Tx.stepD
  by_cases e8 : 8 ≤ t.many
  · rw [if_pos e8] at h; cases h
  · rw [if_neg e8] at h ⊢
    by_cases e0 : ¬ (t.p.st.applyS x).1 = 0
    · rw [if_pos e0] at h; exact absurd h e0
    · rw [if_neg e0] at h ⊢
      by_cases ef : fitS (t.p.st.applyS x).2 r = true
      · rw [if_pos ef]; exact ⟨e8, rfl⟩
      · rw [if_neg ef] at h; cases h
theorem stepD_no {x : RecT} {r : RoomT} (h : ¬ errS t.many (t.p.st.applyS x) r = 0) : t.stepD x r = (errS t.many (t.p.st.applyS x) r, t) := by
  unfold errS at h ⊢
  unfold Tx.stepD
  by_cases e8 : 8 ≤ t.many
  · rw [if_pos e8, if_pos e8]
  · rw [if_neg e8] at h
    rw [if_neg e8, if_neg e8]
    by_cases e0 : ¬ (t.p.st.applyS x).1 = 0
    · rw [if_pos e0, if_pos e0]
    · rw [if_neg e0] at h
      rw [if_neg e0, if_neg e0]
      by_cases ef : fitS (t.p.st.applyS x).2 r = true
      · rw [if_pos ef] at h; exact absurd rfl h
      · rw [if_neg ef, if_neg ef]
theorem stepP_ok {id p : Int} {text : Bytes} {r : RoomT} (h : errS t.many (t.p.st.applyS (putR t id p)) r = 0) : ¬ 8 ≤ t.many ∧ t.stepP id p text r = (0, ⟨⟨(t.p.st.applyS (putR t id p)).2, t.p.tx ++ [text]⟩, t.many + 1⟩) := by
  have := stepD_ok h
  refine ⟨this.1, ?_⟩
  have h2 := this.2
  unfold Tx.stepD at h2
  unfold Tx.stepP
  rw [if_neg this.1] at h2 ⊢
  by_cases e0 : ¬ (t.p.st.applyS (putR t id p)).1 = 0
  · rw [if_pos e0] at h2; injection h2 with h2 _; exact absurd h2 e0
  · rw [if_neg e0] at h2 ⊢
    by_cases ef : fitS (t.p.st.applyS (putR t id p)).2 r = true
    · rw [if_pos ef]
    · rw [if_neg ef] at h2; injection h2 with h2 _; cases h2
theorem stepP_no {id p : Int} {text : Bytes} {r : RoomT} (h : ¬ errS t.many (t.p.st.applyS (putR t id p)) r = 0) : t.stepP id p text r = (errS t.many (t.p.st.applyS (putR t id p)) r, t) := by
  unfold errS at h ⊢
  unfold Tx.stepP
  by_cases e8 : 8 ≤ t.many
  · rw [if_pos e8, if_pos e8]
  · rw [if_neg e8] at h
    rw [if_neg e8, if_neg e8]
    by_cases e0 : ¬ (t.p.st.applyS (putR t id p)).1 = 0
    · rw [if_pos e0, if_pos e0]
    · rw [if_neg e0] at h
      rw [if_neg e0, if_neg e0]
      by_cases ef : fitS (t.p.st.applyS (putR t id p)).2 r = true
      · rw [if_pos ef] at h; exact absurd rfl h
      · rw [if_neg ef, if_neg ef]
theorem err_map {st st' : Sta} {e : Int} {n : Nat} (h : fitS st' r = fitS st r) : errS n (e, st') r = errS n (e, st) r := by
  unfold errS
  simp only [h]
theorem tn_Do (h : TnT L H c A r size t l) (x : RecT) : WP (txn_Txn_Do (some (c, 0)) x H) (TnQ L H c A r size t (t.doS x r) l (chOf x [])) := by
  have k1 := Keep.app (fun _ => False) H [recB x]
  have b1 : (H ++ [recB x])[H.length]? = some (recB x) := by rw [tl_get0]; rfl
  have h1 := h.keep k1
  have hb0 : H ++ [Blk.cells [.int .i64 x.1, .int .i64 x.2.1, .int .i64 x.2.2.1, .int .i64 x.2.2.2.1, .int .i64 x.2.2.2.2.1, .int .i64 x.2.2.2.2.2.1] .exact] = H ++ [recB x] := rfl
  unfold txn_Txn_Do
  simp only
  rw [hb0]
  generalize H ++ [recB x] = H1 at k1 b1 h1 ⊢
  have rx : ∀ {G : Heap}, G[H.length]? = some (recB x) → rd G (.agg [.int .i64, .int .i64, .int .i64, .int .i64, .int .i64, .int .i64]) H.length 0 = (some x : Option RecT) := fun hb => rd_agg_of hb (by simp) (by obtain ⟨a, b, c, d, e, f, ⟨⟩⟩ := x; rfl)
  have hno : ∀ {K : Heap}, ¬ (ownK x = true ∧ chkR x = true) → Keep (fun _ => False) H K → TnQ L H c A r size t (t.doS x r) l (chOf x []) ((1, ()), K) := fun ho hk => by
    have hd : t.doS x r = (1, t) := by unfold Tx.doS; rw [if_neg ho]
    rw [hd]
    exact TnQ.bad h rfl hk rfl (show ¬ (1 : Int) = 0 by decide)
  refine wp_seq (fun z => z = ((ownK x, ()), H1)) ?_ ?_
  · refine wp_to (rdI_of b1 (n := x.1) rfl) (wp_if (p := x.1 = 2) rfl (fun e => wp_some ?_) (fun e => wp_to (rdI_of b1 (n := x.1) rfl) (wp_if (p := 4 ≤ x.1) rfl (fun e2 => wp_to (rdI_of b1 (n := x.1) rfl) (wp_some ?_)) (fun e2 => wp_some ?_))))
    · rw [show ownK x = true from decide_eq_true (.inl e)]
    · rw [show ownK x = decide (x.1 ≤ 7) from decide_eq_decide.2 ⟨fun hh => by omega, fun hh => .inr ⟨e2, hh⟩⟩]
    · rw [show ownK x = false from decide_eq_false fun hh => by omega]
  rintro _ rfl
  refine wp_f rfl (wp_c (fun e => ?_) (fun e => ?_))
  · have e : ¬ ownK x = true := by simpa using e
    exact wp_some (hno (fun hh => e hh.1) k1)
  have eo : ownK x = true := by simpa using e
  have hk := own_kind eo
  refine wp_to (rx b1) (wp_to (rec_check_eq x) (wp_c (fun e => ?_) (fun e => ?_)))
  · have e : ¬ chkR x = true := by simpa using e
    exact wp_some (hno (fun hh => e hh.2) k1)
  have ec : chkR x = true := by simpa using e
  have hd : t.doS x r = if x.1 = 2 ∧ mayS t.p.st x.2.1 ≠ 0 then (mayS t.p.st x.2.1, t) else t.stepD x r := by unfold Tx.doS; rw [if_pos ⟨eo, ec⟩]
  refine wp_seq (fun p => (p.1 = .inl () ∧ ¬ (x.1 = 2 ∧ mayS t.p.st x.2.1 ≠ 0) ∧ Keep (fun _ => False) H1 p.2) ∨ (p.1 = .inr (mayS t.p.st x.2.1, ()) ∧ (x.1 = 2 ∧ mayS t.p.st x.2.1 ≠ 0) ∧ Keep (fun _ => False) H1 p.2)) ?_ ?_
  · refine wp_to (rdI_of b1 (n := x.1) rfl) (wp_if (p := x.1 = 2) rfl (fun e => ?_) (fun e => ?_))
    · refine wp_to (rdI_of b1 (n := x.2.1) rfl) (wp_seq _ (tn_sealed h1.a x.2.1) ?_)
      rintro ⟨⟨ee, ⟨⟩⟩, G2⟩ ⟨he, hk2⟩
      have he : ee = mayS t.p.st x.2.1 := he
      subst he
      have hk2 : Keep (fun _ => False) H1 G2 := hk2
      refine wp_if (p := ¬ mayS t.p.st x.2.1 = 0) (by simp) (fun e0 => ?_) (fun e0 => ?_)
      · exact wp_some (.inr ⟨rfl, ⟨e, e0⟩, hk2⟩)
      · exact wp_some (.inl ⟨rfl, fun hh => e0 hh.2, hk2⟩)
    · exact wp_some (.inl ⟨rfl, fun hh => e hh.1, Keep.refl _ _⟩)
  rintro ⟨p, G2⟩ (⟨hp, hn, hk2⟩ | ⟨hp, hy, hk2⟩)
  · have hp : p = .inl () := hp
    have hk2 : Keep (fun _ => False) H1 G2 := hk2
    subst hp
    rw [if_neg hn] at hd
    have h2 := h1.keep hk2
    have b2 := hk2.get b1 fun hf => hf
    have kk : Keep (fun _ => False) H G2 := k1.trans hk2
    refine wp_to (rx b2) (wp_seq _ (tn_stepD h2.a ec b2 []) ?_)
    rintro ⟨⟨e, ⟨⟩⟩, G3⟩ q
    have q : StepQ L G2 c A r size ((mapSt phi t.p.st).applyS x) t.p.tx l (chOf x []) ((e, ()), G3) := q
    obtain ⟨q1, q2, q3⟩ := q
    rw [mapSt_apply h.ok.w hk, h.n] at q1 q2 q3
    have q1 : e = _ := q1
    refine wp_some ?_
    show TnQ L H c A r size t (t.doS x r) l (chOf x []) ((e, ()), G3)
    have ok' := h.ok.step ec hk (t.many + 1)
    have hm : errS t.many ((t.p.st.applyS x).1, mapSt phi (t.p.st.applyS x).2) r = errS t.many (t.p.st.applyS x) r := err_map (fit_map ok')
    rw [hm] at q1 q2 q3
    by_cases e0 : errS t.many (t.p.st.applyS x) r = 0
    · obtain ⟨n8, hs⟩ := stepD_ok e0
      obtain ⟨kq, A', hA, hA2, hA3, tq⟩ := q3 e0
      rw [hd, hs]
      refine ⟨q1.trans e0, (kk.mono fun _ hf => hf.elim).trans (kq.mono fun b hb => hb.elim .inl fun hb => .inr (.inr hb)), A', ?_, fun b hb => ?_, fun b hb => .inr (by have := hA3 b hb; have := kk.len; omega)⟩
      · rw [if_pos rfl]
        exact ⟨tq, by rw [List.length_append, h.n]; rfl, ⟨by have := h.few; show t.p.tx.length ≤ t.many + 1; omega, by show t.many + 1 ≤ 8; omega⟩, ok'⟩
      · rcases hb with hb | hb | ⟨o, hb⟩
        · exact .inl (.inl hb)
        · exact .inl (.inr (.inl (hb.trans hA)))
        · have := hA2 b o hb
          have := kk.len
          exact .inr (by omega)
    · have hs := stepD_no e0
      rw [hd, hs]
      exact TnQ.bad h q1 (kk.trans (q2 e0)) rfl e0
  · have hp : p = .inr (mayS t.p.st x.2.1, ()) := hp
    have hk2 : Keep (fun _ => False) H1 G2 := hk2
    subst hp
    rw [if_pos hy] at hd
    rw [hd]
    exact wp_some (TnQ.bad h rfl (k1.trans hk2) rfl hy.2)
end
end Ev

namespace Ev
open Go (IntKind)

section
variable {L : Nat} {H G K : Heap} {c : Nat} {A : TnA} {r : RoomT} {size : Int} {t t' : Tx} {l : List ChT}
theorem put_map (h : TxOK t) (id p : Int) : (mapSt phi t.p.st).applyS (putN t.p.tx id p) = ((t.p.st.applyS (putR t id p)).1, mapSt phi (t.p.st.applyS (putR t id p)).2) := by
  have := mapSt_put (g := phi) h.w id p (1000 + (t.p.tx.length : Int))
  rw [show phi (1000 + (t.p.tx.length : Int)) = 512 + (t.p.tx.length : Int) by unfold phi; rw [if_neg (by omega)]; omega] at this
  exact this
theorem tn_Put (h : TnT L H c A r size t l) (id p : Int) (text : Bytes) : WP (txn_Txn_Put (some (c, 0)) id p text H) (TnQ L H c A r size t (t.putS id p text r size) l (chOf (1, id, p, 0, 0, 0, ()) text)) := by
  have k1 := Keep.app (fun _ => False) H [.cells [.ptr (some (c, 0))] .exact, .cells [.int .i64 id] .exact, .cells [.int .i64 p] .exact]
  have k2 := Keep.app (fun _ => False) H [.cells [.ptr (some (c, 0))] .exact, .cells [.int .i64 id] .exact, .cells [.int .i64 p] .exact, recB (1, id, p, 0, 0, 0, ())]
  have b1 : (H ++ [Blk.cells [.ptr (some (c, 0))] .exact, .cells [.int .i64 id] .exact, .cells [.int .i64 p] .exact])[H.length + 1]? = some (.cells [.int .i64 id] .exact) := by rw [tl_get1]; rfl
  have b2 : (H ++ [Blk.cells [.ptr (some (c, 0))] .exact, .cells [.int .i64 id] .exact, .cells [.int .i64 p] .exact])[H.length + 2]? = some (.cells [.int .i64 p] .exact) := by rw [tl_get1]; rfl
  have d0 : (H ++ [Blk.cells [.ptr (some (c, 0))] .exact, .cells [.int .i64 id] .exact, .cells [.int .i64 p] .exact, recB (1, id, p, 0, 0, 0, ())])[H.length]? = some (.cells [.ptr (some (c, 0))] .exact) := by rw [tl_get0]; rfl
  have d1 : (H ++ [Blk.cells [.ptr (some (c, 0))] .exact, .cells [.int .i64 id] .exact, .cells [.int .i64 p] .exact, recB (1, id, p, 0, 0, 0, ())])[H.length + 1]? = some (.cells [.int .i64 id] .exact) := by rw [tl_get1]; rfl
  have d2 : (H ++ [Blk.cells [.ptr (some (c, 0))] .exact, .cells [.int .i64 id] .exact, .cells [.int .i64 p] .exact, recB (1, id, p, 0, 0, 0, ())])[H.length + 2]? = some (.cells [.int .i64 p] .exact) := by rw [tl_get1]; rfl
  have d3 : (H ++ [Blk.cells [.ptr (some (c, 0))] .exact, .cells [.int .i64 id] .exact, .cells [.int .i64 p] .exact, recB (1, id, p, 0, 0, 0, ())])[H.length + 3]? = some (recB (1, id, p, 0, 0, 0, ())) := by rw [tl_get1]; rfl
  have z3 : (H ++ [Blk.cells [.ptr (some (c, 0))] .exact, .cells [.int .i64 id] .exact, .cells [.int .i64 p] .exact, .cells [.int .i64 0, .int .i64 0, .int .i64 0, .int .i64 0, .int .i64 0, .int .i64 0] .exact])[H.length + 3]? = some (.cells [.int .i64 0, .int .i64 0, .int .i64 0, .int .i64 0, .int .i64 0, .int .i64 0] .exact) := by rw [tl_get1]; rfl
  have hw : wr (H ++ [Blk.cells [.ptr (some (c, 0))] .exact, .cells [.int .i64 id] .exact, .cells [.int .i64 p] .exact, .cells [.int .i64 0, .int .i64 0, .int .i64 0, .int .i64 0, .int .i64 0, .int .i64 0] .exact]) (H.length + 3) 0 [.int .i64 1, .int .i64 id, .int .i64 p, .int .i64 0, .int .i64 0, .int .i64 0] = some (H ++ [Blk.cells [.ptr (some (c, 0))] .exact, .cells [.int .i64 id] .exact, .cells [.int .i64 p] .exact, recB (1, id, p, 0, 0, 0, ())]) := by
    rw [wr_of z3 (by decide) (by simp), List.set_append]
    rw [if_neg (by omega), show H.length + 3 - H.length = 3 by omega]; rfl
  unfold txn_Txn_Put
  simp only [List.append_assoc, List.cons_append, List.nil_append, List.length_append, List.length_cons, List.length_nil, Nat.zero_add]
  refine wp_to (rdI_of b1 (n := id) rfl) (wp_to (rdI_of b2 (n := p) rfl) (wp_to hw ?_))
  have h1 := h.keep k2
  generalize H ++ [Blk.cells [.ptr (some (c, 0))] .exact, .cells [.int .i64 id] .exact, .cells [.int .i64 p] .exact, recB (1, id, p, 0, 0, 0, ())] = H1 at k2 d0 d1 d2 d3 h1 ⊢
  refine wp_to (rdP_of d0 (n := some (c, 0)) rfl) (wp_f rfl (wp_to (rdP_of d0 (n := some (c, 0)) rfl) (wp_to (v := (c, 0)) rfl (wp_to (rdI_of h1.a.cc (n := size) rfl) (wp_if (p := size < (text.length : Int)) rfl (fun e => ?_) (fun e => ?_))))))
  · have hd : t.putS id p text r size = (173, t) := by unfold Tx.putS; rw [if_pos e]
    rw [hd]
    exact wp_some (TnQ.bad h rfl k2 rfl (show ¬ (173 : Int) = 0 by decide))
  have hd : t.putS id p text r size = if mayS t.p.st id ≠ 0 then (mayS t.p.st id, t) else t.stepP id p text r := by unfold Tx.putS; rw [if_neg e]
  refine wp_to (rdP_of d0 (n := some (c, 0)) rfl) (wp_to (rdI_of d1 (n := id) rfl) (wp_seq _ (tn_sealed h1.a id) ?_))
  rintro ⟨⟨ee, ⟨⟩⟩, G2⟩ ⟨he, hk2⟩
  have he : ee = mayS t.p.st id := he
  subst he
  have hk2 : Keep (fun _ => False) H1 G2 := hk2
  have kk : Keep (fun _ => False) H G2 := k2.trans hk2
  refine wp_if (p := ¬ mayS t.p.st id = 0) (by simp) (fun e0 => ?_) (fun e0 => ?_)
  · rw [if_pos e0] at hd
    rw [hd]
    exact wp_some (TnQ.bad h rfl kk rfl e0)
  rw [if_neg e0] at hd
  have h2 := h1.keep hk2
  have f0 := hk2.get d0 fun hf => hf
  have f1 := hk2.get d1 fun hf => hf
  have f2 := hk2.get d2 fun hf => hf
  have f3 := hk2.get d3 fun hf => hf
  have rx : rd G2 (.agg [.int .i64, .int .i64, .int .i64, .int .i64, .int .i64, .int .i64]) (H.length + 3) 0 = (some (1, id, p, 0, 0, 0, ()) : Option RecT) := rd_agg_of f3 (by simp) rfl
  refine wp_to (rdP_of f0 (n := some (c, 0)) rfl) (wp_to rx (wp_seq _ (tn_stepP h2.a (ch := chOf (1, id, p, 0, 0, 0, ()) text) f1 f2 f0) ?_))
  rintro ⟨⟨ee, ⟨⟩⟩, G3⟩ ⟨q1, q2, q3⟩
  rw [put_map h.ok, h.n] at q1 q2 q3
  have q1 : ee = _ := q1
  have ok' := h.ok.put id p text (t.many + 1)
  have hm : errS t.many ((t.p.st.applyS (putR t id p)).1, mapSt phi (t.p.st.applyS (putR t id p)).2) r = errS t.many (t.p.st.applyS (putR t id p)) r := err_map (fit_map ok')
  rw [hm] at q1 q2 q3
  by_cases e1 : errS t.many (t.p.st.applyS (putR t id p)) r = 0
  · obtain ⟨n8, hs⟩ := stepP_ok (text := text) e1
    obtain ⟨kq, A', hA, hA2, hA3, tq⟩ := q3 e1
    have kq : Keep (fun b => b = c ∨ ∃ o, A.sl.p = some (b, o)) G2 G3 := kq
    have hA2 : ∀ b o, A'.sl.p = some (b, o) → G2.length ≤ b := hA2
    have hA3 : ∀ b, A'.s.fp (mapSt phi (t.p.st.applyS (putR t id p)).2) b → G2.length ≤ b := hA3
    have tq : TnAt L G3 c A' r size (mapSt phi (t.p.st.applyS (putR t id p)).2) t.p.tx (l ++ [chOf (1, id, p, 0, 0, 0, ()) text]) := tq
    have htx := h.few
    have hin : L ≤ H.length := by have := get_lt h.a.cc; have := h.a.lo; omega
    have g0 : G3[H.length]? = some (.cells [.ptr (some (c, 0))] .exact) := by
      refine kq.get f0 fun hf => ?_
      rcases hf with e | ⟨o, hp⟩
      · have := get_lt h.a.cc; omega
      · have := h.a.ll.lt hp; simp only at this; omega
    obtain ⟨G4, m1, m2, m3⟩ := tq.hh.set (512 + (t.p.tx.length : Int)) text
    rw [heldL_ins] at m2
    have c3 := tq.cc
    have hcA := mp_ne' tq.cc tq.hh
    have c4 := m3.get c3 fun e => hcA e
    have g04 : G4[H.length]? = some (.cells [.ptr (some (c, 0))] .exact) := m3.get g0 fun e => by have := h.a.hh.lt; rw [hA] at e; omega
    have hw5 : wr G4 c (0 + 8) [.int .i64 (IntKind.wrap .i64 (512 + (t.p.tx.length : Int) + 1))] = some (G4.set c (tnC (some (A'.s.c, 0)) A'.sl r size A'.h (512 + ((t.p.tx ++ [text]).length : Int)))) := by
      rw [wr1_of c4 (by decide) (by simp), wrap_i64 (by omega) (by omega), show (512 + ((t.p.tx ++ [text]).length : Int)) = 512 + (t.p.tx.length : Int) + 1 by rw [List.length_append, List.length_singleton]; omega]; rfl
    have k5 : Keep (fun b => b = c) G4 (G4.set c (tnC (some (A'.s.c, 0)) A'.sl r size A'.h (512 + ((t.p.tx ++ [text]).length : Int)))) := Keep.set _ _ _ rfl
    refine wp_t (decide_eq_true (q1.trans e1)) (wp_to (rdP_of g0 (n := some (c, 0)) rfl) (wp_to (v := (c, 0)) rfl (wp_to (rdM_of c3 (n := some A'.h) rfl) (wp_to (rdP_of g0 (n := some (c, 0)) rfl) (wp_to (v := (c, 0)) rfl (wp_to (rdI_of c3 (n := 512 + (t.p.tx.length : Int)) rfl) (wp_to m1 (wp_to (rdP_of g04 (n := some (c, 0)) rfl) (wp_to (v := (c, 0)) rfl (wp_to (rdI_of c4 (n := 512 + (t.p.tx.length : Int)) rfl) (wp_to (v := (c, 0)) rfl (wp_to hw5 (wp_some ?_)))))))))))))
    rw [hd, hs]
    refine ⟨q1.trans e1, (((kk.mono fun _ hf => hf.elim).trans (kq.mono fun b hb => hb.elim .inl fun hb => .inr (.inr hb))).trans (m3.mono fun b e => .inr (.inl (Eq.trans e hA)))).trans (k5.mono fun b e => .inl e), A', ?_, fun b hb => ?_, fun b hb => .inr (by have := hA3 b hb; have := kk.len; omega)⟩
    rotate_left
    · rcases hb with hb | hb | ⟨o, hb⟩
      · exact .inl (.inl hb)
      · exact .inl (.inr (.inl (hb.trans hA)))
      · have := hA2 b o hb
        have := kk.len
        exact .inr (by omega)
    rw [if_pos rfl]
    refine ⟨⟨set_get (get_lt c4), (tq.ss.keep m3 fun b hb e => (tq.sf b hb).2.2.1 e).keep k5 fun b hb e => (tq.sf b hb).2.1 e, ?_, tq.ln, m2.keep k5 fun e => hcA e.symm, tq.lo, tq.sf, tq.lf⟩, by rw [List.length_append, h.n]; rfl, ⟨by show (t.p.tx ++ [text]).length ≤ t.many + 1; rw [List.length_append, List.length_singleton]; omega, by show t.many + 1 ≤ 8; omega⟩, ok'⟩
    refine tq.ll.mono fun a ha => ?_
    have hla := tq.lf a.1 a.2 ha
    have hlt := tq.ll.lt ha
    rw [k5.same _ (by have := m3.len; omega) hla.2.1]
    exact m3.same _ hlt hla.2.2
  · have hs := stepP_no (text := text) e1
    refine wp_f (decide_eq_false fun hh => e1 (q1.symm.trans hh)) (wp_some ?_)
    rw [hd, hs]
    exact TnQ.bad h q1 (kk.trans (q2 e1)) rfl e1
end
end Ev

namespace Ev
open Go (IntKind)

def tx0 : Tx := ⟨⟨⟨[], [], [], []⟩, []⟩, 0⟩
theorem SaW.none : SaW ⟨[], [], [], []⟩ := ⟨Asc.nil, Asc.nil, Asc.nil, Asc.nil, fun x hx => absurd hx List.not_mem_nil, fun x hx => absurd hx List.not_mem_nil, fun x hx => absurd hx List.not_mem_nil, fun x hx => absurd hx List.not_mem_nil⟩
theorem TnAt.begin {L : Nat} {H : Heap} {c : Nat} {A : TnA} {r : RoomT} {size : Int} {st : Sta} (h : TnAt L H c A r size st [] []) (w : SaW st) (hat : ∀ x ∈ st.lv, 0 ≤ x.2 ∧ x.2 ≤ 511) : TnT L H c A r size ⟨⟨st, []⟩, 0⟩ [] := by
  have e : mapSt phi st = st := by
    have : mapV phi st.lv = st.lv := by
      unfold mapV
      refine (List.map_congr_left fun x hx => ?_).trans (List.map_id _)
      have := hat x hx
      unfold phi
      rw [if_pos (by omega)]; rfl
    unfold mapSt
    rw [this]
  exact ⟨by show TnAt L H c A r size (mapSt phi st) [] []; rw [e]; exact h, rfl, ⟨Nat.le_refl _, Nat.zero_le _⟩, ⟨w, fun x hx => .inl (hat x hx)⟩⟩
theorem TnT.len {L : Nat} {H : Heap} {c : Nat} {A : TnA} {r : RoomT} {size : Int} {t : Tx} {l : List ChT} (h : TnT L H c A r size t l) : l.length ≤ 1000 := by have := h.n; have := h.few; omega
def aw1 : Tx := (tx0.doS (4, 1, 0, 0, 0, 4, ()) (3, 6, 0, 0, ())).2
def aw2 : Tx := (aw1.putS 1 2 [116, 101, 120, 116] (3, 6, 0, 0, ()) 64).2
theorem awake17 : law17_awake = some (true, ()) := by
  have key : WP (law17_awake.on []) fun x => x.1 = true := by
    unfold law17_awake.on
    obtain ⟨a, n1, n2, n3, _⟩ := new_st []
    rw [← n2] at n1
    refine wp_to n1 (wp_seq _ (tn_New n3 (3, 6, 0, 0, ()) 64) ?_)
    rintro ⟨z, G⟩ ⟨c, A, rfl, hT, _⟩
    have hT0 : TnT _ G c A (3, 6, 0, 0, ()) 64 tx0 [] := TnAt.begin hT SaW.none fun x hx => absurd hx List.not_mem_nil
    refine wp_seq _ (tn_Do hT0 (4, 1, 0, 0, 0, 4, ())) ?_
    rintro ⟨⟨e1, ⟨⟩⟩, G1⟩ ⟨q1, _, A1, hT1, _⟩
    have q1 : e1 = 0 := q1
    subst q1
    have hT1 : TnT _ G1 c A1 (3, 6, 0, 0, ()) 64 aw1 [chOf (4, 1, 0, 0, 0, 4, ()) []] := hT1
    refine wp_seq _ (tn_Put hT1 1 2 [116, 101, 120, 116]) ?_
    rintro ⟨⟨e2, ⟨⟩⟩, G2⟩ ⟨q2, _, A2, hT2, _⟩
    have q2 : e2 = 0 := q2
    subst q2
    have hT2 : TnT _ G2 c A2 (3, 6, 0, 0, ()) 64 aw2 [chOf (4, 1, 0, 0, 0, 4, ()) [], chOf (1, 1, 2, 0, 0, 0, ()) [116, 101, 120, 116]] := hT2
    refine wp_to (tn_Get hT2.a 1 2) (wp_t rfl (wp_t rfl (wp_t rfl (wp_t (decide_eq_true rfl) (wp_t rfl (wp_seq _ (tn_Changes hT2.a hT2.len) ?_))))))
    rintro ⟨z, G3⟩ ⟨s, rfl, _, l3, k3⟩
    have l3 : s.len = 2 := l3
    have k3 : Keep (fun _ => False) G2 G3 := k3
    refine wp_t (by simp [l3]) (wp_seq _ (tn_Spaces (hT2.keep k3).a) ?_)
    rintro ⟨z, G4⟩ ⟨s', rfl, _, l4, k4⟩
    have l4 : s'.len = 1 := l4
    exact wp_some (by simp [l4])
  obtain ⟨⟨b, ⟨⟩⟩, e1, e2⟩ := key
  have e2 : b = true := e2
  subst e2
  exact e1
end Ev

namespace Ev
open Go (IntKind)

end Ev

namespace Ev
open Go (IntKind)

theorem wp_ex17 {α : Type} {x : Option ((Bool × Unit) × α)} (h : WP x fun r => r.1.1 = true) : ∃ H', x = some ((true, ()), H') := by
  obtain ⟨⟨⟨b, ⟨⟩⟩, G⟩, e1, e2⟩ := h
  have e2 : b = true := e2
  subst e2
  exact ⟨G, e1⟩
def chB (x : ChT) : Blk := .cells [.int .i64 x.1, .int .i64 x.2.1, .int .i64 x.2.2.1, .int .i64 x.2.2.2.1, .int .i64 x.2.2.2.2.1, .int .i64 x.2.2.2.2.2.1, .str x.2.2.2.2.2.2.1] .exact
section
variable {L : Nat} {H G K : Heap} {c : Nat} {A : TnA} {r : RoomT} {size : Int} {t : Tx} {l : List ChT} {s : Sl}
theorem TnT.fp_lt (h : TnT L G c A r size t l) {b : Nat} (hb : A.fp c b) : b < G.length := by
  rcases hb with rfl | rfl | ⟨o, hp⟩
  · exact get_lt h.a.cc
  · exact h.a.hh.lt
  · exact h.a.ll.lt hp
theorem TnT.fp_low (h : TnT L G c A r size t l) {b : Nat} (hb : A.fp c b) : L ≤ b := by
  rcases hb with rfl | rfl | ⟨o, hp⟩
  · exact h.a.lo.1
  · exact h.a.lo.2
  · exact (h.a.lf _ _ hp).1
/-- Other blocks change. -/
theorem TnT.other (h : TnT L G c A r size t l) {F : Nat → Prop} (k : Keep F G K) (h1 : ∀ b, A.fp c b → ¬ F b) (h2 : ∀ b, A.s.fp (mapSt phi t.p.st) b → ¬ F b) : TnT L K c A r size t l :=
  ⟨⟨k.get h.a.cc (h1 _ (.inl rfl)), h.a.ss.keep k h2, h.a.ll.mono fun a ha => k.same _ (h.a.ll.lt ha) (h1 _ (.inr (.inr ⟨a.2, ha⟩))), h.a.ln, h.a.hh.keep k (h1 _ (.inr (.inl rfl))), h.a.lo, h.a.sf, h.a.lf⟩, h.n, h.few, h.ok⟩
/-- A transaction, and a list of what it was told. -/
structure Lst (L : Nat) (G : Heap) (c : Nat) (A : TnA) (r : RoomT) (size : Int) (t : Tx) (l : List ChT) (s : Sl) : Prop where
  m : TnT L G c A r size t l
  g : Grown G 7 s (rowsOf ctC l)
  n : s.len = l.length
  d : ∀ b o, s.p = some (b, o) → L ≤ b ∧ ¬ A.fp c b ∧ ¬ A.s.fp (mapSt phi t.p.st) b
theorem Lst.keep (h : Lst L G c A r size t l s) (k : Keep (fun _ => False) G K) : Lst L K c A r size t l s :=
  ⟨h.m.keep k, h.g.mono fun a ha => k.same _ (h.g.lt ha) fun hf => hf, h.n, h.d⟩
/-- A change is put on the list if it was made. -/
theorem lst_end (h : Lst L G c A r size t l s) {w : Int × Tx} {ch : ChT} {y : (Int × Unit) × Heap} (hq : TnQ L G c A r size t w l ch y) {B : Nat} (hB : G[B]? = some (chB ch)) (hBn : ¬ A.fp c B) {i : Nat} (hi : i < 1000) :
    WP (cond (decide (y.1.1 = 0)) (
 Option.bind (α := ChT) (rd y.2 (.agg [.int .i64, .int .i64, .int .i64, .int .i64, .int .i64, .int .i64, .str]) B 0) fun (v18 : ChT) =>
 let H19 : Heap := y.2 ++ [Blk.cells [.int .i64 v18.1, .int .i64 v18.2.1, .int .i64 v18.2.2.1, .int .i64 v18.2.2.2.1, .int .i64 v18.2.2.2.2.1, .int .i64 v18.2.2.2.2.2.1, .str v18.2.2.2.2.2.2.1] .exact]
 (slRow H19 7 (⟨some (y.2.length, 0), 1, 1⟩)).bind fun (cs20 : (List C)) =>
 (appS H19 7 64 s 1 cs20).bind fun (p21 : (Sl × Heap)) =>
 (some (Sum.inl (p21.1, (IntKind.wrap .i64 ((i : Int) + 1)), ()), p21.2) : Option (((Sl × Int × Unit) ⊕ (Sl × Unit)) × Heap))) (
 some (Sum.inl (s, (IntKind.wrap .i64 ((i : Int) + 1)), ()), y.2)))
    (fun z => ∃ s' A' t' l', z.1 = .inl (s', ((i + 1 : Nat) : Int), ()) ∧ Lst L z.2 c A' r size t' l' s' ∧ Keep (fun b => L ≤ b) G z.2) := by
  obtain ⟨⟨e, ⟨⟩⟩, G2⟩ := y
  obtain ⟨q1, qk, A', hT, hn1, hn2⟩ := hq
  have q1 : e = w.1 := q1
  have qk : Keep (A.fp c) G G2 := qk
  have hT : TnT L G2 c A' r size w.2 (if w.1 = 0 then l ++ [ch] else l) := hT
  have hg2 : Grown G2 7 s (rowsOf ctC l) := h.g.mono fun a ha => qk.same _ (h.g.lt ha) fun hf => (h.d a.1 a.2 ha).2.1 hf
  have hd2 : ∀ b o, s.p = some (b, o) → L ≤ b ∧ ¬ A'.fp c b ∧ ¬ A'.s.fp (mapSt phi w.2.p.st) b := fun b o hp => by
    have hlt := h.g.lt hp
    simp only at hlt
    obtain ⟨d1, d2, d3⟩ := h.d b o hp
    exact ⟨d1, fun hf => (hn1 b hf).elim d2 fun hh => by omega, fun hf => (hn2 b hf).elim d3 fun hh => by omega⟩
  have kl : Keep (fun b => L ≤ b) G G2 := qk.mono fun b hb => h.m.fp_low hb
  have hw := wrap_succ (show i < 9223372036854775807 by omega)
  by_cases e0 : w.1 = 0
  · rw [if_pos e0] at hT
    have b2 := qk.get hB hBn
    have h8 := hT.few.2
    have hln := hT.n
    have hsn := h.n
    have hll : (l ++ [ch]).length = l.length + 1 := by simp
    refine wp_t (decide_eq_true (q1.trans e0)) (wp_to (v := ch) (rd_agg_of b2 (by simp) rfl) ?_)
    refine wp_appk (Em.start hg2) rfl (by decide) (by omega) fun s' G3 hE hn hk hlow => wp_some ⟨s', A', w.2, l ++ [ch], ?_, ⟨hT.other hE.k (fun b hb ⟨o, ho⟩ => (hd2 b o ho).2.1 hb) fun b hb ⟨o, ho⟩ => (hd2 b o ho).2.2 hb, ?_, ?_, fun b o hp => ?_⟩, kl.trans (hE.k.mono fun b ⟨o, ho⟩ => (hd2 b o ho).1)⟩
    · simp only [hw]
    · have : rowsOf ctC (l ++ [ch]) = rowsOf ctC l ++ Tup.mk ctC ch := rowsOf_snoc (cts := ctC) l ch
      rw [this]; exact hE.g
    · rw [hn, hsn, hll]
    · have h1 := hlow b o hp
      have h2 := get_lt hT.a.cc
      have h3 := hT.a.lo.1
      exact ⟨by omega, fun hf => by have := hT.fp_lt hf; omega, fun hf => by have := hT.a.ss.lt hf; omega⟩
  · rw [if_neg e0] at hT
    refine wp_f (decide_eq_false fun hh => e0 (q1.symm.trans hh)) (wp_some ⟨s, A', w.2, l, ?_, ⟨hT, hg2, h.n, hd2⟩, kl⟩)
    simp only [hw]
theorem row_chg {x0 : Sl} {rows : List ChT} (hr : Row G 7 x0 (rowsOf ctC rows)) {i : Nat} (hi : i < rows.length) : ∃ b o, Sl.at 7 x0 (i : Int) = some (b, o) ∧ rd G (.agg [.int .i64, .int .i64, .int .i64, .int .i64, .int .i64, .int .i64, .str]) b o = (some rows[i] : Option ChT) := by
  obtain ⟨b, o, e1, e2, _⟩ := Row.rd (cts := ctC) hr (i := i) hi (by decide)
  exact ⟨b, o, e1, e2⟩
theorem lists_step (h : Lst L G c A r 64 t l s) {x0 : Sl} {rows : List ChT} (hr : Row G 7 x0 (rowsOf ctC rows)) (hlen : x0.len = rows.length) {i : Nat} (hi : i < rows.length) (h30 : i < 30) {G0 : Heap} :
    WP (law17_TxnLists.s1 x0 ((some (c, 0), ()), G0) (s, (i : Int), ()) G) (fun z => ∃ s' A' t' l', z.1 = .inl (s', ((i + 1 : Nat) : Int), ()) ∧ Lst L z.2 c A' r 64 t' l' s' ∧ Keep (fun b => L ≤ b) G z.2) := by
  obtain ⟨b1, o1, e1, e2⟩ := row_chg hr hi
  have hw0 : wr (G ++ [Blk.cells [.int .i64 0, .int .i64 0, .int .i64 0, .int .i64 0, .int .i64 0, .int .i64 0, .str []] .exact]) G.length 0 [.int .i64 rows[i].1, .int .i64 rows[i].2.1, .int .i64 rows[i].2.2.1, .int .i64 rows[i].2.2.2.1, .int .i64 rows[i].2.2.2.2.1, .int .i64 rows[i].2.2.2.2.2.1, .str rows[i].2.2.2.2.2.2.1] = some (G ++ [chB rows[i]]) := by
    rw [wr_t0, wr_c0 _ _ _ _ (by simp)]; rfl
  generalize rows[i] = x at e2 hw0
  have t0 : (G ++ [chB x])[G.length]? = some (chB x) := by rw [tl_get0]; rfl
  unfold law17_TxnLists.s1
  refine wp_t (decide_eq_true (by rw [hlen]; exact Int.ofNat_lt.2 hi)) (wp_t (decide_eq_true (by simp only; omega)) (wp_to e1 (wp_to e2 (wp_to hw0 (wp_to (rdI_of t0 (n := x.1) rfl) (wp_if (p := x.1 = 1) rfl (fun e => ?_) (fun e => ?_)))))))
  · have hw1 : wr (G ++ [chB x]) G.length 0 [.int .i64 1, .int .i64 x.2.1, .int .i64 x.2.2.1, .int .i64 0, .int .i64 0, .int .i64 0] = some (G ++ [chB (chOf (1, x.2.1, x.2.2.1, 0, 0, 0, ()) x.2.2.2.2.2.2.1)]) := by
      rw [wr_t0]
      show (wr [_] 0 0 _).map _ = _
      rw [show wr [chB x] 0 0 [.int .i64 1, .int .i64 x.2.1, .int .i64 x.2.2.1, .int .i64 0, .int .i64 0, .int .i64 0] = some ([chB x].set 0 (chB (chOf (1, x.2.1, x.2.2.1, 0, 0, 0, ()) x.2.2.2.2.2.2.1))) from by
        rw [wr_of (cs := [.int .i64 x.1, .int .i64 x.2.1, .int .i64 x.2.2.1, .int .i64 x.2.2.2.1, .int .i64 x.2.2.2.2.1, .int .i64 x.2.2.2.2.2.1, .str x.2.2.2.2.2.2.1]) (bk := .exact) rfl (by decide) (by simp)]; rfl]
      rfl
    have k1 := Keep.app (fun _ => False) G [chB (chOf (1, x.2.1, x.2.2.1, 0, 0, 0, ()) x.2.2.2.2.2.2.1)]
    have t1 : (G ++ [chB (chOf (1, x.2.1, x.2.2.1, 0, 0, 0, ()) x.2.2.2.2.2.2.1)])[G.length]? = some (chB (chOf (1, x.2.1, x.2.2.1, 0, 0, 0, ()) x.2.2.2.2.2.2.1)) := by rw [tl_get0]; rfl
    have h1 := h.keep k1
    refine wp_to (rdI_of t0 (n := x.2.1) rfl) (wp_to (rdI_of t0 (n := x.2.2.1) rfl) (wp_to hw1 (wp_to (rdI_of t1 (n := x.2.1) rfl) (wp_to (rdI_of t1 (n := x.2.2.1) rfl) (wp_to (rdS_of t1 (n := x.2.2.2.2.2.2.1) rfl) (wp_seq _ (tn_Put h1.m x.2.1 x.2.2.1 x.2.2.2.2.2.2.1) ?_))))))
    intro y hy
    refine wp_mono (lst_end h1 hy t1 (fun hf => by have := h.m.fp_lt hf; omega) (by omega)) ?_
    rintro z ⟨s', A', t', l', z1, z2, z3⟩
    exact ⟨s', A', t', l', z1, z2, (k1.mono fun _ hf => hf.elim).trans z3⟩
  · have hw1 : wr (G ++ [chB x]) G.length 6 [.str []] = some (G ++ [chB (chOf (x.1, x.2.1, x.2.2.1, x.2.2.2.1, x.2.2.2.2.1, x.2.2.2.2.2.1, ()) [])]) := by
      rw [wr_t0]
      show (wr [_] 0 6 _).map _ = _
      rw [show wr [chB x] 0 6 [.str []] = some ([chB x].set 0 (chB (chOf (x.1, x.2.1, x.2.2.1, x.2.2.2.1, x.2.2.2.2.1, x.2.2.2.2.2.1, ()) []))) from by
        rw [wr1_of (cs := [.int .i64 x.1, .int .i64 x.2.1, .int .i64 x.2.2.1, .int .i64 x.2.2.2.1, .int .i64 x.2.2.2.2.1, .int .i64 x.2.2.2.2.2.1, .str x.2.2.2.2.2.2.1]) (bk := .exact) rfl (by decide) (by simp)]; rfl]
      rfl
    have k1 := Keep.app (fun _ => False) G [chB (chOf (x.1, x.2.1, x.2.2.1, x.2.2.2.1, x.2.2.2.2.1, x.2.2.2.2.2.1, ()) [])]
    have t1 : (G ++ [chB (chOf (x.1, x.2.1, x.2.2.1, x.2.2.2.1, x.2.2.2.2.1, x.2.2.2.2.2.1, ()) [])])[G.length]? = some (chB (chOf (x.1, x.2.1, x.2.2.1, x.2.2.2.1, x.2.2.2.2.1, x.2.2.2.2.2.1, ()) [])) := by rw [tl_get0]; rfl
    have h1 := h.keep k1
    refine wp_to hw1 (wp_to (v := (x.1, x.2.1, x.2.2.1, x.2.2.2.1, x.2.2.2.2.1, x.2.2.2.2.2.1, ())) (rd_agg_of t1 (by simp) rfl) (wp_seq _ (tn_Do h1.m (x.1, x.2.1, x.2.2.1, x.2.2.2.1, x.2.2.2.2.1, x.2.2.2.2.2.1, ())) ?_))
    intro y hy
    refine wp_mono (lst_end h1 hy t1 (fun hf => by have := h.m.fp_lt hf; omega) (by omega)) ?_
    rintro z ⟨s', A', t', l', z1, z2, z3⟩
    exact ⟨s', A', t', l', z1, z2, (k1.mono fun _ hf => hf.elim).trans z3⟩
theorem cmp_chg {s1 s2 : Sl} {l : List ChT} (h1 : Row K 7 s1 (rowsOf ctC l)) (h2 : Row K 7 s2 (rowsOf ctC l)) (l1 : s1.len = l.length) (hl : l.length ≤ 100000) {G1 G2 : Heap} :
    WP (loopW (law17_TxnLists.s2 ((s1, ()), G1) ((s2, ()), G2)) (0, ()) K) fun r => r.1 = .inl () ∧ r.2 = K := by
  refine wp_rise l.length (fun i (y : Int × Unit) G => y = ((i : Int), ()) ∧ G = K) (fun (x : Unit ⊕ (Bool × Unit)) G => x = .inl () ∧ G = K) ?_ ?_ ⟨rfl, rfl⟩
  · rintro i y G hi ⟨rfl, rfl⟩
    obtain ⟨b1, o1, e1, e2⟩ := row_chg h1 hi
    obtain ⟨b2, o2, e3, e4⟩ := row_chg h2 hi
    have hw := wrap_succ (show i < 9223372036854775807 by omega)
    unfold law17_TxnLists.s2
    refine wp_t (decide_eq_true (by rw [l1]; exact Int.ofNat_lt.2 hi)) (wp_to e3 (wp_to e4 (wp_to e1 (wp_to e2 (wp_f (by simp) (wp_some ⟨?_, rfl⟩))))))
    simp only [hw]
  · rintro y G ⟨rfl, rfl⟩
    unfold law17_TxnLists.s2
    exact wp_f (decide_eq_false (by rw [l1]; exact Int.lt_irrefl _)) (wp_some ⟨rfl, rfl⟩)
theorem TxnLists_true (x0 : Sl) {H : Heap} (hc : Came ctC [] x0 H) : ∃ H', law17_TxnLists x0 H = some ((true, ()), H') := by
  obtain ⟨rows, hr, hlen, _, _⟩ := came_rows hc
  have hr : Row H 7 x0 (rowsOf ctC rows) := hr
  have hlow : ∀ b o, x0.p = some (b, o) → b < H.length := fun b o hp => hr.lt hp
  apply wp_ex17
  unfold law17_TxnLists
  obtain ⟨a, n1, n2, n3, n4⟩ := new_st H
  have k1 := Keep.app (fun _ => False) H [.mp [] 0, .mp [] 0, .mp [] 0, .mp [] 0, .cells [.mp (some H.length), .mp (some (H.length + 1)), .mp (some (H.length + 2)), .mp (some (H.length + 3))] .exact]
  generalize H ++ [Blk.mp [] 0, .mp [] 0, .mp [] 0, .mp [] 0, .cells [.mp (some H.length), .mp (some (H.length + 1)), .mp (some (H.length + 2)), .mp (some (H.length + 3))] .exact] = H1 at n1 n3 k1
  rw [← n2] at n1
  refine wp_to n1 (wp_seq _ (tn_New n3 (9, 18, 0, 0, ()) 64) ?_)
  rintro ⟨z, G⟩ ⟨c, A, rfl, hT, k2⟩
  have k2 : Keep (fun _ => False) H1 G := k2
  have hT0 : TnT H1.length G c A (9, 18, 0, 0, ()) 64 tx0 [] := TnAt.begin hT SaW.none fun x hx => absurd hx List.not_mem_nil
  have k3 := Keep.app (fun _ => False) G [.cells [] .exact]
  have b3 : (G ++ [Blk.cells [] .exact])[G.length]? = some (.cells [] .exact) := by rw [tl_get0]; rfl
  have h0 : Grown (G ++ [Blk.cells [] .exact]) 7 ⟨some (G.length, 0), 0, 0⟩ [] := ⟨rfl, rfl, fun hh => (by cases hh), fun a ha => by cases ha; exact ⟨rfl, .inr b3⟩⟩
  have hHG := k2.len
  have hH1 := k1.len
  have hL0 : Lst H1.length (G ++ [Blk.cells [] .exact]) c A (9, 18, 0, 0, ()) 64 tx0 [] ⟨some (G.length, 0), 0, 0⟩ :=
    ⟨hT0.keep k3, h0, rfl, fun b o hp => by cases hp; exact ⟨hHG, fun hf => by have := hT0.fp_lt hf; omega, fun hf => by have := hT0.a.ss.lt hf; omega⟩⟩
  have hr3 : Row (G ++ [Blk.cells [] .exact]) 7 x0 (rowsOf ctC rows) := hr.keep ((k1.trans k2).trans k3) fun _ _ _ hf => hf
  simp only
  refine wp_seq _ (wp_rise (step := law17_TxnLists.s1 x0 ((some (c, 0), ()), G)) (min rows.length 30) (fun i (y : Sl × Int × Unit) K => ∃ s A t l, y = (s, (i : Int), ()) ∧ Lst H1.length K c A (9, 18, 0, 0, ()) 64 t l s ∧ Keep (fun b => H1.length ≤ b) (G ++ [Blk.cells [] .exact]) K)
    (fun (x : Sl × Unit) K => ∃ s A t l, x = (s, ()) ∧ Lst H1.length K c A (9, 18, 0, 0, ()) 64 t l s) ?_ ?_ ⟨_, A, tx0, [], rfl, hL0, Keep.refl _ _⟩) ?_
  · rintro i y K hi ⟨s, A', t, l, rfl, hL, kK⟩
    have hir : i < List.length (α := ChT) rows := by show i < rows.length; omega
    refine wp_mono (lists_step hL (rows := rows) (hr3.keep kK fun b o hp hh => by have := hlow b o hp; omega) hlen hir (by omega)) ?_
    rintro ⟨x, K'⟩ ⟨s', A2, t', l', z1, z2, z3⟩
    have z1 : x = _ := z1
    subst z1
    exact ⟨s', A2, t', l', rfl, z2, kK.trans z3⟩
  · rintro y K ⟨s, A', t, l, rfl, hL, kK⟩
    unfold law17_TxnLists.s1
    by_cases hl : rows.length ≤ 30
    · rw [Nat.min_eq_left hl]
      exact wp_f (decide_eq_false (by rw [hlen]; exact Int.lt_irrefl _)) (wp_some ⟨s, A', t, l, rfl, hL⟩)
    · rw [Nat.min_eq_right (by omega)]
      exact wp_t (decide_eq_true (by rw [hlen]; exact Int.ofNat_lt.2 (by omega))) (wp_f rfl (wp_some ⟨s, A', t, l, rfl, hL⟩))
  rintro ⟨x, K⟩ ⟨s, A', t, l, hx, hL⟩
  have hx : x = (s, ()) := hx
  subst hx
  have hL : Lst H1.length K c A' (9, 18, 0, 0, ()) 64 t l s := hL
  refine wp_seq _ (tn_Changes hL.m.a hL.m.len) ?_
  rintro ⟨z, K2⟩ ⟨s2, rfl, g1, g2, kk⟩
  have kk : Keep (fun _ => False) K K2 := kk
  have g1 : Row K2 7 s2 (rowsOf ctC l) := g1
  have hL2 := hL.keep kk
  have h8 := hL.m.few
  have hn := hL.m.n
  have hsn := hL.n
  refine wp_to awake17 (wp_f rfl (wp_f (by simp [g2, hsn]) (wp_f (decide_eq_false (by simp only; omega)) ?_)))
  refine wp_seq _ (cmp_chg (Row.grown hL2.g) g1 hsn (by omega)) ?_
  rintro ⟨x, K3⟩ ⟨hx, rfl⟩
  have hx : x = .inl () := hx
  subst hx
  exact wp_some rfl
end
end Ev

