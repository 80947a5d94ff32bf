/- What the law leans on: texts of this claim, put together. -/
import Derived.Test.YtbnghapbakaheaaEvCore
import Derived.Test.YtbnghapbakaheaaEvLoop
import Derived.Test.YtbnghapbakaheaaEvOpen
import Derived.Test.YtbnghapbakaheaaGRec
import Derived.Test.YtbnghapbakaheaaGRef07
import Derived.Test.YtbnghapbakaheaaGState
import Derived.Test.YtbnghapbakaheaaGRef08
import Derived.Test.YtbnghapbakaheaaGRef16
import Derived.Test.YtbnghapbakaheaaGLaw17
import Derived.Test.YtbnghapbakaheaaGTxn
import Derived.Test.YtbnghapbakaheaaRTxnPlaysa
set_option linter.unusedSimpArgs false
set_option linter.unusedVariables false
namespace Ev
open Go (IntKind)

end Ev

namespace Ev
open Go (IntKind)

/-- Where a clone lies, in the order l. -/
def cloP (N0 : Nat) (l : List Int) (k : Int) : Nat := N0 + (kpos (fun _ => 2) l k + 1)
def cloR {β : Type} (N0 : Nat) (g : Int → β → W) (P : Int → List (Int × β)) (sp : List (Int × Int × Bool)) (l : List Int) (k : Int) : List Blk :=
  [.cells [.int .i64 ((afind sp k).getD (0, false)).1, .bool ((afind sp k).getD (0, false)).2, .mp (some (cloP N0 l k))] .exact, .mp (encA g (P k)) 0]
/-- The spaces of a list. -/
def spL (sp : List (Int × Int × Bool)) (l : List Int) : List (Int × Int × Bool) := sp.filter fun x => decide (x.1 ∈ l)
theorem spL_asc {sp : List (Int × Int × Bool)} (h : Asc sp) (l : List Int) : Asc (spL sp l) := h.sub List.filter_sublist
theorem spL_find {sp : List (Int × Int × Bool)} (h : Asc sp) (l : List Int) (k : Int) : afind (spL sp l) k = if k ∈ l then afind sp k else none := by
  cases hf : afind (spL sp l) k with
  | some v =>
    have := List.mem_filter.1 (afind_mem hf)
    rw [if_pos (of_decide_eq_true this.2), h.find this.1]
  | none =>
    by_cases e : k ∈ l
    · rw [if_pos e]
      cases hs : afind sp k with
      | none => rfl
      | some v =>
        have := (spL_asc h l).find (List.mem_filter.2 ⟨afind_mem hs, decide_eq_true e⟩)
        rw [hf] at this; cases this
    · rw [if_neg e]
theorem clone_loop {β : Type} {g : Int → β → W} (hg : ∀ (π : Nat → Nat) (j : Int) (v : β), (g j v).ren π = g j v) {H0 : Heap} {m N : Nat} {pg : Int → Nat} {sp : List (Int × Int × Bool)} (hsp : Asc sp) {P : Int → List (Int × β)} (hm : MpA H0 m (spW pg) sp)
    (hP : ∀ id x, afind sp id = some x → MpA H0 (pg id) g (P id)) (hN : H0[N]? = some (.mp [] 0)) (hne : m ≠ N) (hpn : ∀ id x, afind sp id = some x → pg id ≠ N) {step : Int → Unit → Heap → Option (Unit × Heap)}
    (hstep : ∀ k x G, afind sp k = some x → MpA G m (spW pg) sp → MpA G (pg k) g (P k) → (∀ b, b < H0.length → b ≠ N → G[b]? = H0[b]?) → H0.length ≤ G.length →
      step k () G = (mset (G ++ [.cells [.int .i64 x.1, .bool x.2, .mp (some (G.length + 1))] .exact, .mp (encA g (P k)) 0]) (some N) k (.agg [.int .i64 x.1, .bool x.2, .mp (some (G.length + 1))])).bind fun H' => some ((), H')) :
    ∃ G pg', eachW step (some m) () H0 = some ((), G) ∧ (∀ b, b < H0.length → b ≠ N → G[b]? = H0[b]?) ∧ H0.length ≤ G.length ∧ MpA G N (spW pg') sp ∧ (∀ id x, afind sp id = some x → MpA G (pg' id) g (P id) ∧ H0.length ≤ pg' id) ∧
      ∀ id x id' x', afind sp id = some x → afind sp id' = some x' → pg' id = pg' id' → id = id' := by
  have hNl := get_lt hN
  have hin : ∀ {k : Int}, k ∈ sp.map Prod.fst → ∃ x, afind sp k = some x := fun hk => Option.isSome_iff_exists.1 (afind_isSome.2 hk)
  let F : List Int → Heap := fun l => H0.set N (.mp (encA (spW (cloP H0.length l)) (spL sp l)) 0) ++ rowsK (cloR H0.length g P sp l) l
  have hF : ∀ l, F l = H0.set N (.mp (encA (spW (cloP H0.length l)) (spL sp l)) 0) ++ rowsK (cloR H0.length g P sp l) l := fun _ => rfl
  have hR : ∀ l k, (cloR H0.length g P sp l k).length = (fun _ : Int => 2) k := fun _ _ => rfl
  have hRl : ∀ l l', (rowsK (cloR H0.length g P sp l) l').length = 2 * l'.length := fun l l' => by
    rw [rowsK_len _ _ (hR l)]
    induction l' with
    | nil => rfl
    | cons x l' ih => rw [ktot, ih, List.length_cons]; omega
  have hlow : ∀ l b, b < H0.length → b ≠ N → (F l)[b]? = H0[b]? := fun l b hb hbn => by rw [hF, List.getElem?_append_left (by simpa using hb), set_get' (Ne.symm hbn)]
  have hFN : ∀ l, (F l)[N]? = some (.mp (encA (spW (cloP H0.length l)) (spL sp l)) 0) := fun l => by rw [hF, List.getElem?_append_left (by simpa using hNl), set_get hNl]
  have hkt : ∀ l : List Int, ktot (fun _ => 2) l = 2 * l.length := fun l => by
    induction l with
    | nil => rfl
    | cons x l' ih => rw [ktot, ih, List.length_cons]; omega
  have hF0 : F [] = H0 := by
    rw [hF]
    have e : spL sp [] = [] := by unfold spL; rw [List.filter_eq_nil_iff]; intro x _ hh; simp at hh
    rw [e]
    show H0.set N (.mp [] 0) ++ [] = H0
    rw [List.append_nil, set_same hN]
  have hrow : ∀ l k j, k ∈ l → j < 2 → (F l)[H0.length + (kpos (fun _ => 2) l k + j)]? = (cloR H0.length g P sp l k)[j]? := fun l k j hk hj => by
    rw [hF, List.getElem?_append_right (by simp), List.length_set, Nat.add_sub_cancel_left, rowsK_get (fun _ => 2) _ (hR l) hk hj]
  obtain ⟨dc, hhd⟩ := hm.head
  have hmF : ∀ l, MpA (F l) m (spW pg) sp ∧ (F l).mpAt m = H0.mpAt m := fun l => by
    have e := hlow l m hm.lt hne
    exact ⟨by obtain ⟨dc, hd⟩ := hm; exact ⟨dc, by rw [e]; exact hd⟩, by unfold Heap.mpAt; rw [e]⟩
  have hFl : ∀ l, (F l).length = H0.length + 2 * l.length := fun l => by rw [hF, List.length_append, List.length_set, hRl]
  have hall : spL sp (sp.map Prod.fst) = sp := List.filter_eq_self.2 fun x hx => decide_eq_true (List.mem_map.2 ⟨x, hx, rfl⟩)
  refine ⟨F (sp.map Prod.fst), cloP H0.length (sp.map Prod.fst), ?_, hlow _, by rw [hFl]; omega, ⟨0, by rw [hFN, hall]⟩, fun id x hx => ?_, fun id x id' x' hx hx' e => ?_⟩
  · refine eachW_of (ks := sp.map Prod.fst) hm.keys hhd (keys_nodup hsp) (fun _ => ()) F rfl hF0 (fun l k hl hn hk hkl => ⟨?_, ?_⟩) (fun l hl => ⟨rfl, ?_⟩)
    · obtain ⟨x, hx⟩ := hin hk
      have hpl : MpA (F l) (pg k) g (P k) := by
        obtain ⟨dp, hd⟩ := hP k x hx
        exact ⟨dp, by rw [hlow l _ (get_lt hd) (hpn k x hx)]; exact hd⟩
      rw [hstep k x (F l) hx (hmF l).1 hpl (hlow l) (by rw [hFl]; omega)]
      have hNF : (F l ++ [.cells [.int .i64 x.1, .bool x.2, .mp (some ((F l).length + 1))] .exact, .mp (encA g (P k)) 0])[N]? = some (.mp (encA (spW (cloP H0.length (l ++ [k]))) (spL sp l)) 0) := by
        have e0 : encA (spW (cloP H0.length l)) (spL sp l) = encA (spW (cloP H0.length (l ++ [k]))) (spL sp l) := enc_congr fun y hy => by
          have hyl := of_decide_eq_true (List.mem_filter.1 hy).2
          unfold spW cloP
          rw [kpos_left _ hyl]
        rw [List.getElem?_append_left (by rw [hFl]; omega), hFN, e0]
      have hpk : (F l).length + 1 = cloP H0.length (l ++ [k]) k := by
        unfold cloP
        rw [kpos_append _ hkl, hkt, hFl]; omega
      have hset := mset_of hNF k x (w := .agg [.int .i64 x.1, .bool x.2, .mp (some ((F l).length + 1))]) (by unfold spW; rw [hpk])
      simp only [hset, Option.bind_some]
      refine congrArg (fun G => some ((), G)) ?_
      have hsl : ains (spL sp l) k x = spL sp (l ++ [k]) := asc_ext ((spL_asc hsp l).ins _ _) (spL_asc hsp _) fun k' => by
        rw [afind_ins (spL_asc hsp l), spL_find hsp, spL_find hsp]
        by_cases e : k' = k
        · rw [if_pos e, e, if_pos (by simp), hx]
        · rw [if_neg e]
          by_cases e2 : k' ∈ l
          · rw [if_pos e2, if_pos (by simp [e2])]
          · rw [if_neg e2, if_neg (by simp [e, e2])]
      rw [hsl, hpk, hF, hF, List.append_assoc, List.set_append_left _ _ (by simpa using hNl), List.set_set, rowsK_snoc]
      congr 1
      have e1 : rowsK (cloR H0.length g P sp (l ++ [k])) l = rowsK (cloR H0.length g P sp l) l := by
        exact congrArg List.flatten (List.map_congr_left fun y hy => by unfold cloR cloP; rw [kpos_left _ hy])
      rw [e1]
      congr 1
      unfold cloR
      rw [hx]; rfl
    · simp only [mhead, Option.bind_some, (hmF (l ++ [k])).2]
      exact hhd
    · have hnd := hl.nodup_iff.2 (keys_nodup hsp)
      have hkr : ∀ k ∈ l, kren (fun _ => 2) H0.length l (sp.map Prod.fst) (cloP H0.length l k) = cloP H0.length (sp.map Prod.fst) k := fun k hk => kren_at (fun _ => 2) hk (by omega)
      refine alike_rows (fun _ => 2) hl hnd (List.length_set ..) (List.length_set ..) _ _ (rowsK_len _ _ (hR _) _) (rowsK_len _ _ (hR _) _) (fun b hb => ?_) (fun k hk j hj => ?_)
      · by_cases e : b = N
        · subst e
          left
          rw [set_get hNl, set_get hNl, hall, show spL sp l = sp from List.filter_eq_self.2 fun x hx => decide_eq_true (hl.symm.subset (List.mem_map.2 ⟨x, hx, rfl⟩))]
          show some (Blk.mp _ 0) = some (Blk.mp ((encA (spW (cloP H0.length l)) sp).map fun x : Int × W => (x.1, W.ren (kren (fun _ => 2) H0.length l (sp.map Prod.fst)) x.2)) 0)
          unfold encA
          rw [List.map_map]
          congr 2
          refine List.map_congr_left fun x hx => ?_
          show (x.1, spW (cloP H0.length (sp.map Prod.fst)) x.1 x.2) = (x.1, W.ren (kren (fun _ => 2) H0.length l (sp.map Prod.fst)) (spW (cloP H0.length l) x.1 x.2))
          unfold spW
          show _ = (x.1, W.agg [.int .i64 x.2.1, .bool x.2.2, .mp (some (kren (fun _ => 2) H0.length l (sp.map Prod.fst) (cloP H0.length l x.1)))])
          rw [hkr x.1 (hl.symm.subset (List.mem_map.2 ⟨x, hx, rfl⟩))]
        · right
          rw [set_get' (Ne.symm e), set_get' (Ne.symm e)]; exact ⟨rfl, rfl⟩
      · rw [rowsK_get (fun _ => 2) _ (hR _) (hl.subset hk) hj, rowsK_get (fun _ => 2) _ (hR _) hk hj]
        have h0 : j = 0 ∨ j = 1 := by have : j < 2 := hj; omega
        rcases h0 with rfl | rfl
        · show some (Blk.cells [_, _, C.mp (some (cloP H0.length (sp.map Prod.fst) k))] _) = some (Blk.cells [_, _, C.mp (some (kren (fun _ => 2) H0.length l _ (cloP H0.length l k)))] _)
          rw [hkr k hk]; rfl
        · show some (Blk.mp (encA g (P k)) 0) = some (Blk.mp ((encA g (P k)).map fun x : Int × W => (x.1, W.ren (kren (fun _ => 2) H0.length l (sp.map Prod.fst)) x.2)) 0)
          unfold encA
          rw [List.map_map]
          congr 2
          refine List.map_congr_left fun x hx => ?_
          show (x.1, g x.1 x.2) = (x.1, W.ren (kren (fun _ => 2) H0.length l (sp.map Prod.fst)) (g x.1 x.2))
          rw [hg]
  · have hk : id ∈ sp.map Prod.fst := afind_isSome.1 (by rw [hx]; rfl)
    refine ⟨⟨0, ?_⟩, by unfold cloP; omega⟩
    exact hrow _ id 1 hk (by decide)
  · have hk : id ∈ sp.map Prod.fst := afind_isSome.1 (by rw [hx]; rfl)
    have hk' : id' ∈ sp.map Prod.fst := afind_isSome.1 (by rw [hx']; rfl)
    have h1 := kloc_pos (fun _ => 2) hk (j := 1) (by decide)
    have h2 := kloc_pos (fun _ => 2) hk' (j := 1) (by decide)
    unfold cloP at e
    rw [show kpos (fun _ => 2) (sp.map Prod.fst) id + 1 = kpos (fun _ => 2) (sp.map Prod.fst) id' + 1 by omega, h2] at h1
    cases h1; rfl
end Ev

namespace Ev
open Go (IntKind)

section
variable {H : Heap} {a : SaA} {st : Sta}
theorem st_copy (h : StAt H a st) : ∃ G a', state_State_Copy (some (a.c, 0)) H = some ((some (a'.c, 0), ()), G) ∧ StAt G a' st ∧ Keep (fun _ => False) H G ∧ ∀ b, a'.fp st b → H.length ≤ b := by
  have hnd := h.nd
  have h1 := h.push (.mp [] 0)
  have hc1 := h1.rf.clone
  have h2 := h1.push (.mp (encA inW (rfOf st.lv)) 0)
  have hc2 := h2.bd.clone
  have h3 := h2.push (.mp (encA boW st.bd) 0)
  have hc3 := h3.wn.clone
  have h4 := h3.push (.mp (encA inW st.wn) 0)
  have h5 := (h4.push (.cells [.mp (some H.length), .mp (some (H.length + 1)), .mp (some (H.length + 2)), .mp (some (H.length + 3))] .exact)).push .dead
  have hrd1 := h2.r2
  have hrd2 := h2.r3
  have hrd3 := h3.r3
  have hr0 := (h4.push (.cells [.mp (some H.length), .mp (some (H.length + 1)), .mp (some (H.length + 2)), .mp (some (H.length + 3))] .exact)).r0
  have hl4 : (H ++ [Blk.mp [] 0] ++ [Blk.mp (encA inW (rfOf st.lv)) 0] ++ [Blk.mp (encA boW st.bd) 0] ++ [Blk.mp (encA inW st.wn) 0]).length = H.length + 4 := by simp
  generalize hH5 : H ++ [Blk.mp [] 0] ++ [.mp (encA inW (rfOf st.lv)) 0] ++ [.mp (encA boW st.bd) 0] ++ [.mp (encA inW st.wn) 0] ++ [.cells [.mp (some H.length), .mp (some (H.length + 1)), .mp (some (H.length + 2)), .mp (some (H.length + 3))] .exact] ++ [.dead] = H5 at h5
  have hH5' : H5 = H ++ [.mp [] 0, .mp (encA inW (rfOf st.lv)) 0, .mp (encA boW st.bd) 0, .mp (encA inW st.wn) 0, .cells [.mp (some H.length), .mp (some (H.length + 1)), .mp (some (H.length + 2)), .mp (some (H.length + 3))] .exact, .dead] := by rw [← hH5]; simp
  have k5 : Keep (fun _ => False) H H5 := by rw [hH5']; exact Keep.app _ _ _
  have l5 : H5.length = H.length + 6 := by rw [hH5']; simp
  have g0 : H5[H.length]? = some (.mp [] 0) := by rw [hH5', tl_get0]; rfl
  have g1 : H5[H.length + 1]? = some (.mp (encA inW (rfOf st.lv)) 0) := by rw [hH5', tl_get1]; rfl
  have g2 : H5[H.length + 2]? = some (.mp (encA boW st.bd) 0) := by rw [hH5', tl_get1]; rfl
  have g3 : H5[H.length + 3]? = some (.mp (encA inW st.wn) 0) := by rw [hH5', tl_get1]; rfl
  have g4 : H5[H.length + 4]? = some (.cells [.mp (some H.length), .mp (some (H.length + 1)), .mp (some (H.length + 2)), .mp (some (H.length + 3))] .exact) := by rw [hH5', tl_get1]; rfl
  have hsl := h.sp.lt
  obtain ⟨G, pg', e1, e2, e3, e4, e5, e6⟩ := clone_loop (g := inW) (fun _ _ _ => rfl) h.w.sp (P := fun id => pgs st.lv id) h5.sp h5.pg g0 (show a.sp ≠ H.length by omega) (fun id x hx => by have := (h.pg id x hx).lt; omega)
    (step := state_State_Copy.s1 ((some (H.length + 3), ()), H ++ [.mp [] 0] ++ [.mp (encA inW (rfOf st.lv)) 0] ++ [.mp (encA boW st.bd) 0] ++ [.mp (encA inW st.wn) 0]) (some a.sp))
    (fun k x G hx hm hp hlow hlen => by
      have hm1 : mat G (.agg [.int .i64, .bool, .mp]) (some a.sp) k = (some (x.1, x.2, some (a.pg k), ()) : Option (Int × Bool × Option Nat × Unit)) := hm.mat (.agg [.int .i64, .bool, .mp]) k (by rw [hx]; rfl)
      have hcl := (hp.keep (F := fun _ => False) (Keep.push _ G (.cells [.int .i64 x.1, .bool x.2, .mp (some (a.pg k))] .exact)) fun hf => hf).clone
      have hbx : rdM (G ++ [.cells [.int .i64 x.1, .bool x.2, .mp (some (G.length + 1))] .exact, .mp (encA inW (pgs st.lv k)) 0]) (H.length + 4) 0 = some (some H.length) := by
        refine rdM_of (cs := [.mp (some H.length), .mp (some (H.length + 1)), .mp (some (H.length + 2)), .mp (some (H.length + 3))]) (bk := .exact) ?_ rfl
        rw [List.getElem?_append_left (by omega), hlow _ (by omega) (by omega)]; exact g4
      unfold state_State_Copy.s1
      refine (bind_to hm1).trans ?_
      simp only [Option.bind_some, Option.map_some, cond_true, cond_false, List.append_assoc, List.cons_append, List.nil_append, List.length_append, List.length_cons, List.length_nil, Nat.zero_add, rd_t0, rd_t1, rdI_t0, rdI_t1, rdB_t0, rdB_t1, rdM_t0, rdM_t1, rd_c1, rdI_c1, rdB_c1, rdM_c1, rdI_c0, rdB_c0, rdM_c0, wr_t0, wr_t1, wr_c0, wr_c1, setL, List.set, List.getElem?_cons_zero, List.getElem?_cons_succ, un_i, un_b, un_m, un_s, Nat.le_refl, rd_iiib, rd_iiiiii, rd_ibm, rd_iii, rd_iib, rd_ii, rd_3312, rd_iiii, rd_si, rd_33121, rd_33121i, slRow_t0, slRow_t1, sl_c0, sl_c1] at hcl ⊢
      simp only [hcl, Option.bind_some, Option.map_some, cond_true, cond_false, List.append_assoc, List.cons_append, List.nil_append, List.length_append, List.length_cons, List.length_nil, Nat.zero_add, rd_t0, rd_t1, rdI_t0, rdI_t1, rdB_t0, rdB_t1, rdM_t0, rdM_t1, rd_c1, rdI_c1, rdB_c1, rdM_c1, rdI_c0, rdB_c0, rdM_c0, wr_t0, wr_t1, wr_c0, wr_c1, setL, List.set, List.getElem?_cons_zero, List.getElem?_cons_succ, un_i, un_b, un_m, un_s, Nat.le_refl, rd_iiib, rd_iiiiii, rd_ibm, rd_iii, rd_iib, rd_ii, rd_3312, rd_iiii, rd_si, rd_33121, rd_33121i, slRow_t0, slRow_t1, sl_c0, sl_c1, hl4, hbx])
  have kG : ∀ {b : Nat} {y : Blk}, H5[b]? = some y → b ≠ H.length → G[b]? = some y := fun hb hne => by rw [e2 _ (get_lt hb) hne]; exact hb
  have g1' := kG g1 (by omega)
  have g2' := kG g2 (by omega)
  have g3' := kG g3 (by omega)
  have g4' := kG g4 (by omega)
  refine ⟨G, ⟨H.length + 4, H.length, H.length + 1, H.length + 2, H.length + 3, pg'⟩, ?_, ⟨h.w, g4', e4, fun id x hx => (e5 id x hx).1, ⟨0, g1'⟩, ⟨0, g2'⟩, ⟨0, g3'⟩, by simp only; omega, fun id x hx => by have := (e5 id x hx).2; simp only; omega, e6⟩, ⟨by omega, fun b hb _ => by rw [e2 b (by omega) (by omega), k5.same b hb fun hf => hf]⟩, ?_⟩
  · unfold state_State_Copy
    have hc1' : mclone (some a.rf) (H ++ [.mp [] 0]) = some ((some (H.length + 1), ()), H ++ [.mp [] 0] ++ [.mp (encA inW (rfOf st.lv)) 0]) := by rw [hc1]; simp
    have hc2' : mclone (some a.bd) (H ++ [.mp [] 0] ++ [.mp (encA inW (rfOf st.lv)) 0]) = some ((some (H.length + 2), ()), H ++ [.mp [] 0] ++ [.mp (encA inW (rfOf st.lv)) 0] ++ [.mp (encA boW st.bd) 0]) := by rw [hc2]; simp
    have hc3' : mclone (some a.wn) (H ++ [.mp [] 0] ++ [.mp (encA inW (rfOf st.lv)) 0] ++ [.mp (encA boW st.bd) 0]) = some ((some (H.length + 3), ()), H ++ [.mp [] 0] ++ [.mp (encA inW (rfOf st.lv)) 0] ++ [.mp (encA boW st.bd) 0] ++ [.mp (encA inW st.wn) 0]) := by rw [hc3]; simp
    have t1 : (H ++ [Blk.mp [] 0] ++ [Blk.mp (encA inW (rfOf st.lv)) 0])[H.length]? = some (.mp [] 0) := by rw [List.append_assoc, tl_get0]; rfl
    have t2 : (H ++ [Blk.mp [] 0] ++ [Blk.mp (encA inW (rfOf st.lv)) 0] ++ [Blk.mp (encA boW st.bd) 0])[H.length]? = some (.mp [] 0) := by rw [List.append_assoc, List.append_assoc, tl_get0]; rfl
    have t3 : (H ++ [Blk.mp [] 0] ++ [Blk.mp (encA inW (rfOf st.lv)) 0] ++ [Blk.mp (encA boW st.bd) 0] ++ [Blk.mp (encA inW st.wn) 0] ++ [Blk.cells [.mp (some H.length), .mp (some (H.length + 1)), .mp (some (H.length + 2)), .mp (some (H.length + 3))] .exact])[H.length]? = some (.mp [] 0) := by rw [List.append_assoc, List.append_assoc, List.append_assoc, List.append_assoc, tl_get0]; rfl
    simp only [Option.isNone_some, cond_false, Option.bind_some, h1.r1, h1.r2, h1.r3, hc1', hrd1, hrd2, if_true, t1, hc2', t2, hrd3, hc3', t3, hr0]
    rw [hH5]
    refine (bind_to e1).trans ?_
    simp only [hl4]
  · rintro b (rfl | rfl | rfl | rfl | rfl | ⟨id, x, hx, rfl⟩)
    · simp only; omega
    · exact Nat.le_refl _
    · simp only; omega
    · simp only; omega
    · simp only; omega
    · have := (e5 id x hx).2
      simp only; omega
end
end Ev

namespace Ev
open Go (IntKind)

section
variable {α : Type}
/-- Is it put, once l was looked at? -/
def putI (k : Int) (l : List (Int × α)) : Bool := l.any fun x => decide (k ≤ x.1)
def outI (k : Int) (v : α) (l : List (Int × α)) : List (Int × α) := if putI k l = true then ains l k v else l
theorem ains_snoc {l : List (Int × α)} {k : Int} (v : α) (h : ∀ x ∈ l, x.1 < k) : ains l k v = l ++ [(k, v)] := by
  induction l with
  | nil => rfl
  | cons x l ih =>
    have := h x (by simp)
    rw [ains, if_neg (by omega), if_neg (by omega), ih fun y hy => h y (by simp [hy])]; rfl
theorem ains_app {l : List (Int × α)} {k : Int} (v : α) {x : Int × α} (h : Asc (l ++ [x])) (hp : putI k l = true) : ains (l ++ [x]) k v = ains l k v ++ (if x.1 = k then [] else [x]) := by
  induction l with
  | nil => cases hp
  | cons y l ih =>
    have hyx : y.1 < x.1 := h.head (by simp)
    rw [List.cons_append, ains, ains]
    by_cases e : k < y.1
    · rw [if_pos e, if_pos e, if_neg (by omega)]; rfl
    · rw [if_neg e, if_neg e]
      by_cases e2 : y.1 = k
      · rw [if_pos e2, if_pos e2, if_neg (by omega)]; rfl
      · rw [if_neg e2, if_neg e2]
        have hp' : putI k l = true := by
          unfold putI at hp ⊢
          rw [List.any_cons, Bool.or_eq_true] at hp
          exact hp.resolve_left (by simp; omega)
        rw [ih h.tail hp']; rfl
theorem putI_false {k : Int} {l : List (Int × α)} (h : putI k l = false) : ∀ x ∈ l, x.1 < k := fun x hx => by
  unfold putI at h
  rw [List.any_eq_false] at h
  have := h x hx
  simp at this; exact this
/-- One more is looked at. -/
theorem outI_snoc {l : List (Int × α)} {k : Int} (v : α) {x : Int × α} (h : Asc (l ++ [x])) :
    putI k (l ++ [x]) = (putI k l || decide (k ≤ x.1)) ∧ outI k v (l ++ [x]) = outI k v l ++ (if putI k l = false ∧ k ≤ x.1 then [(k, v)] else []) ++ (if x.1 = k then [] else [x]) := by
  have h1 : putI k (l ++ [x]) = (putI k l || decide (k ≤ x.1)) := by unfold putI; rw [List.any_append]; simp
  refine ⟨h1, ?_⟩
  unfold outI
  rw [h1]
  cases hp : putI k l with
  | true =>
    rw [Bool.true_or, if_pos rfl, if_pos rfl, if_neg (fun hh => by cases hh.1), List.append_nil, ains_app v h hp]
  | false =>
    have hl := putI_false hp
    rw [Bool.false_or]
    by_cases e : k ≤ x.1
    · rw [if_pos (decide_eq_true e), if_neg (by decide), if_pos ⟨rfl, e⟩]
      clear h1 hp h
      induction l with
      | nil =>
        show ains [x] k v = [(k, v)] ++ _
        rw [ains]
        by_cases e2 : k < x.1
        · rw [if_pos e2, if_neg (by omega)]; rfl
        · rw [if_neg e2, if_pos (by omega), if_pos (by omega)]; rfl
      | cons y l ih =>
        have := hl y (by simp)
        rw [List.cons_append, ains, if_neg (by omega), if_neg (by omega), ih fun z hz => hl z (by simp [hz])]; rfl
    · rw [decide_eq_false e, if_neg (by decide), if_neg (by decide), if_neg (fun hh => e hh.2), List.append_nil, if_neg (by omega)]
theorem outI_all (k : Int) (v : α) (l : List (Int × α)) : (outI k v l ++ if putI k l = false then [(k, v)] else []) = ains l k v := by
  unfold outI
  cases hp : putI k l with
  | true => rw [if_pos rfl, if_neg (by decide), List.append_nil]
  | false => rw [if_neg (by decide), if_pos rfl, ains_snoc v (putI_false hp)]
end
section
variable {H : Heap} {s0 : Sl} {es : Nat} {G : Heap} {s : Sl} {cs : List C}
theorem Em.add (h : Em H s0 es G s cs) (t : Heap) (hes : 0 < es) {new : List C} (hnew : new.length = es) {bytes : Nat} (hb : (s.len + 1) * bytes ≤ 35184372088832) (hb2 : s.len + 1 ≤ 35184372088832) :
    ∃ s' G', appS (G ++ t) es bytes s 1 new = some (s', G') ∧ Em H s0 es G' s' (cs ++ new) ∧ s'.len = s.len + 1 ∧ ∀ b, b < (G ++ t).length → (∀ o, s.p ≠ some (b, o)) → G'[b]? = (G ++ t)[b]? := by
  obtain ⟨s', G', h1, h2, h3, h4, _⟩ := (h.push t).app hes hnew hb hb2
  exact ⟨s', G', h1, h2, h3, fun b hb ho => h4.same b hb fun ⟨o, hp⟩ => ho o hp⟩
/-- A loop that puts out rows, and knows of one thing whether it is put. -/
theorem emitI {cts : List CT} {step : Sl × Bool × Int × Unit → Heap → Option (((Sl × Bool × Int × Unit) ⊕ (Sl × Bool × Unit)) × Heap)} (n : Nat) (out : Nat → List (Tup cts)) (put : Nat → Bool) (h0 : Em H s0 es H s0 []) (hz : s0.len = 0) (ho : out 0 = []) (hp : put 0 = false)
    (hs : ∀ i, i < n → ∀ s G, Em H s0 es G s (rowsOf cts (out i)) → s.len = (out i).length → ∃ s' G', step (s, put i, (i : Int), ()) G = some (.inl (s', put (i + 1), ((i + 1 : Nat) : Int), ()), G') ∧ Em H s0 es G' s' (rowsOf cts (out (i + 1))) ∧ s'.len = (out (i + 1)).length)
    (he : ∀ s G, Em H s0 es G s (rowsOf cts (out n)) → step (s, put n, (n : Int), ()) G = some (.inr (s, put n, ()), G)) :
    ∃ s G, loopW step (s0, false, 0, ()) H = some ((s, put n, ()), G) ∧ Em H s0 es G s (rowsOf cts (out n)) ∧ s.len = (out n).length := by
  obtain ⟨x, G, g1, s, rfl, g2⟩ := loop_rise (step := step) n (fun i y G => ∃ s, y = (s, put i, (i : Int), ()) ∧ Em H s0 es G s (rowsOf cts (out i)) ∧ s.len = (out i).length) (fun x G => ∃ s, x = (s, put n, ()) ∧ Em H s0 es G s (rowsOf cts (out n)) ∧ s.len = (out n).length)
    (fun i y G hi ⟨s, hy, hE, hn⟩ => by
      subst hy
      obtain ⟨s', G', g1, g2, g3⟩ := hs i hi s G hE hn
      exact .inl ⟨_, G', g1, s', rfl, g2, g3⟩)
    (fun y G ⟨s, hy, hE, hn⟩ => by
      subst hy
      exact ⟨_, G, he s G hE, s, rfl, hE, hn⟩) (y := (s0, false, 0, ())) (H := H) ⟨s0, by rw [hp]; rfl, by rw [ho]; exact h0, by rw [ho, hz]; rfl⟩
  exact ⟨s, G, g1, g2⟩
end
end Ev

namespace Ev
open Go (IntKind)

theorem rowsOf_append' {cts : List CT} (l l' : List (Tup cts)) : rowsOf cts (l ++ l') = rowsOf cts l ++ rowsOf cts l' := by simp [rowsOf]
abbrev ctP : List CT := [.int .i64, .int .i64, .bool]
abbrev ctL : List CT := [.int .i64, .int .i64, .int .i64]
abbrev ctW : List CT := [.int .i64, .int .i64]
abbrev RfV := Sl × Sl × Sl × Sl × Unit
def rsp (x : Int × Int × Bool) : Tup ctP := (x.1, x.2.1, x.2.2, ())
def rlv (x : Int × Int) : Tup ctL := (x.1 / 1024, x.1 % 1024, x.2, ())
def rwn (x : Int × Int) : Tup ctW := (x.1, x.2, ())
structure RfAt (G : Heap) (v : RfV) (st : Sta) : Prop where
  w : SaW st
  sp : Row G 3 v.1 (rowsOf ctP (st.sp.map rsp))
  lv : Row G 3 v.2.1 (rowsOf ctL (st.lv.map rlv))
  bd : Row G 1 v.2.2.1 (intC (st.bd.map Prod.fst))
  wn : Row G 2 v.2.2.2.1 (rowsOf ctW (st.wn.map rwn))
  spl : v.1.len = st.sp.length
  lvl : v.2.1.len = st.lv.length
  bdl : v.2.2.1.len = st.bd.length
  wnl : v.2.2.2.1.len = st.wn.length
/-- Its blocks. -/
def blkV (v : RfV) (b : Nat) : Prop := (∃ o, v.1.p = some (b, o)) ∨ (∃ o, v.2.1.p = some (b, o)) ∨ (∃ o, v.2.2.1.p = some (b, o)) ∨ ∃ o, v.2.2.2.1.p = some (b, o)
section
variable {H G : Heap} {v v' : RfV} {st st' : Sta}
theorem RfAt.keep (h : RfAt H v st) {F : Nat → Prop} (k : Keep F H G) (hF : ∀ b, blkV v b → ¬ F b) : RfAt G v st :=
  ⟨h.w, h.sp.keep k fun b o hp => hF b (.inl ⟨o, hp⟩), h.lv.keep k fun b o hp => hF b (.inr (.inl ⟨o, hp⟩)), h.bd.keep k fun b o hp => hF b (.inr (.inr (.inl ⟨o, hp⟩))), h.wn.keep k fun b o hp => hF b (.inr (.inr (.inr ⟨o, hp⟩))), h.spl, h.lvl, h.bdl, h.wnl⟩
theorem RfAt.lt (h : RfAt H v st) {b : Nat} (hb : blkV v b) : b < H.length := by
  rcases hb with ⟨o, hp⟩ | ⟨o, hp⟩ | ⟨o, hp⟩ | ⟨o, hp⟩
  · exact h.sp.lt hp
  · exact h.lv.lt hp
  · exact h.bd.lt hp
  · exact h.wn.lt hp
/-- What has come of it. -/
structure RRes (H : Heap) (v : RfV) (G : Heap) (v' : RfV) (st' : Sta) : Prop where
  s : RfAt G v' st'
  k : Keep (fun _ => False) H G
  n : ∀ b, blkV v' b → blkV v b ∨ H.length ≤ b
def vC (v : RfV) : List C := [.sl 3 v.1, .sl 3 v.2.1, .sl 1 v.2.2.1, .sl 2 v.2.2.2.1]
/-- The box of a state, and the box of what is told. -/
theorem fin4 {b1 b2 : Nat} {cs : List C} (h1 : b1 < G.length) (h2 : G[b2]? = some (.cells cs .exact)) (hl : cs.length = 4) (hne : b1 ≠ b2) (v : RfV) :
    rd (G.set b1 (.cells (vC v) .exact)) (.agg [.sl 3, .sl 3, .sl 1, .sl 2]) b1 0 = (some v : Option RfV) ∧
    wr (G.set b1 (.cells (vC v) .exact)) b2 0 [.sl 3 v.1, .sl 3 v.2.1, .sl 1 v.2.2.1, .sl 2 v.2.2.2.1] = some ((G.set b1 (.cells (vC v) .exact)).set b2 (.cells (vC v) .exact)) ∧
    rd ((G.set b1 (.cells (vC v) .exact)).set b2 (.cells (vC v) .exact)) (.agg [.sl 3, .sl 3, .sl 1, .sl 2]) b2 0 = (some v : Option RfV) := by
  have g2 := get_lt h2
  refine ⟨rd_agg_of (set_get h1) (by simp [vC]) rfl, ?_, rd_agg_of (set_get (by simpa using g2)) (by simp [vC]) rfl⟩
  have := wr_of (H := G.set b1 (.cells (vC v) .exact)) (b := b2) (o := 0) (cs := cs) (bk := .exact) (new := [.sl 3 v.1, .sl 3 v.2.1, .sl 1 v.2.2.1, .sl 2 v.2.2.2.1]) (by rw [set_get' hne]; exact h2) (by decide) (by rw [hl]; exact Nat.le_refl 4)
  rw [this]
  obtain ⟨c0, c1, c2, c3, rfl⟩ : ∃ c0 c1 c2 c3, cs = [c0, c1, c2, c3] := by
    match cs, hl with
    | [c0, c1, c2, c3], _ => exact ⟨c0, c1, c2, c3, rfl⟩
  rfl
theorem RfAt.box (h : RfAt H v st) (t : Heap) (ht : t[0]? = some (.cells (vC v) .exact)) {s0 : Sl} {es : Nat} {s : Sl} {cs : List C} (hs0 : ∀ a, s0.p = some a → H.length < a.1) (hE : Em (H ++ t) s0 es G s cs) :
    RfAt G v st ∧ G[H.length]? = some (.cells (vC v) .exact) := by
  have ho : ∀ b, b ≤ H.length → ∀ o, s0.p ≠ some (b, o) := fun b hb o hp => by have := hs0 _ hp; simp only at this; omega
  exact ⟨(h.keep (Keep.app (fun _ => False) H t) fun _ _ hf => hf).keep hE.k fun b hb ⟨o, hp⟩ => ho b (by have := h.lt hb; omega) o hp, hE.get (by rw [tl_get0]; exact ht) (ho _ (Nat.le_refl _))⟩
theorem outI_len {α : Type} {l : List (Int × α)} (h : Asc l) (k : Int) (v : α) : (outI k v l).length ≤ l.length + 1 := by
  unfold outI
  split
  · rw [ains_length h]; split <;> omega
  · omega
theorem tup3 {a b c d e : Int} (h1 : a = c) (h2 : b = d) : ((a, b, e, ()) : Tup ctL) = (c, d, e, ()) := by subst h1; subst h2; rfl
/-- The second half of a round: the leaf that stands there, unless it is the same page's. -/
def withB (x1l g : Nat) (i : Int) (p24 : (Sl × Bool × Unit) × Heap) : Option (((Sl × Bool × Int × Unit) ⊕ (Sl × Bool × Unit)) × Heap) :=
 ((rdI .i64 p24.2 g 0).bind fun (v25 : Int) => (rdI .i64 p24.2 x1l 0).bind fun (v26 : Int) =>
  cond (!decide (v25 = v26)) (some ((true, ()), p24.2)) ((rdI .i64 p24.2 g 1).bind fun (v27 : Int) => (rdI .i64 p24.2 x1l 1).bind fun (v28 : Int) => some (((!decide (v27 = v28)), ()), p24.2)) : Option ((Bool × Unit) × Heap)).bind fun (p29 : (Bool × Unit) × Heap) =>
 cond p29.1.1 (Option.bind (α := (Int × Int × Int × Unit)) (rd p29.2 (.agg [.int .i64, .int .i64, .int .i64]) g 0) fun (v30 : (Int × Int × Int × Unit)) =>
  (appS (p29.2 ++ [.cells [.int .i64 v30.1, .int .i64 v30.2.1, .int .i64 v30.2.2.1] .exact]) 3 24 p24.1.1 1 [.int .i64 v30.1, .int .i64 v30.2.1, .int .i64 v30.2.2.1]).bind fun (p33 : (Sl × Heap)) =>
  some (Sum.inl (p33.1, p24.1.2.1, i, ()), p33.2)) (some (Sum.inl (p24.1.1, p24.1.2.1, i, ()), p29.2))
theorem withB_eq {K G2 : Heap} {s0 s2 : Sl} {cs : List C} {x1l g : Nat} {i : Int} {put : Bool} {a b c id p pl : Int} (hE : Em K s0 3 G2 s2 cs) (hg : G2[g]? = some (.cells [.int .i64 a, .int .i64 b, .int .i64 c] .exact)) (hl : G2[x1l]? = some (.cells [.int .i64 id, .int .i64 p, .int .i64 pl] .exact)) (hn : s2.len ≤ 100000) :
    ∃ s' G', withB x1l g i ((s2, put, ()), G2) = some (.inl (s', put, i, ()), G') ∧ Em K s0 3 G' s' (cs ++ if a = id ∧ b = p then [] else [.int .i64 a, .int .i64 b, .int .i64 c]) ∧ s'.len = s2.len + if a = id ∧ b = p then 0 else 1 := by
  obtain ⟨s', G', e1, e2, e3, _⟩ := hE.add [.cells [.int .i64 a, .int .i64 b, .int .i64 c] .exact] (by decide) (new := [.int .i64 a, .int .i64 b, .int .i64 c]) (bytes := 24) rfl (by omega) (by omega)
  have hr : rd G2 (.agg [.int .i64, .int .i64, .int .i64]) g 0 = (some (a, b, c, ()) : Option (Int × Int × Int × Unit)) := rd_agg_of hg (by simp) rfl
  unfold withB
  simp only [rdI_of hg (o := 0) rfl, rdI_of hg (o := 1) rfl, rdI_of hl (o := 0) rfl, rdI_of hl (o := 1) rfl, Option.bind_some]
  by_cases h1 : a = id
  · simp only [decide_eq_true h1, Bool.not_true, cond_false, Option.bind_some]
    by_cases h2 : b = p
    · simp only [decide_eq_true h2, Bool.not_true, cond_false]
      rw [if_pos ⟨h1, h2⟩, if_pos ⟨h1, h2⟩, List.append_nil]
      exact ⟨s2, G2, rfl, hE, rfl⟩
    · simp only [decide_eq_false h2, Bool.not_false, cond_true, hr, Option.bind_some, e1]
      rw [if_neg (fun hh => h2 hh.2), if_neg (fun hh => h2 hh.2)]
      exact ⟨s', G', rfl, e2, e3⟩
  · simp only [decide_eq_false h1, Bool.not_false, cond_true, hr, Option.bind_some, e1]
    rw [if_neg (fun hh => h1 hh.1), if_neg (fun hh => h1 hh.1)]
    exact ⟨s', G', rfl, e2, e3⟩
/-- One round of putting a leaf in. -/
theorem with_step (h : RfAt H v st) {id p pl : Int} (hp : 0 ≤ p ∧ p < 1024) {H1 : Heap} (hH1 : H1.length = H.length + 1) {t : Heap} (ht : t[0]? = some (.cells (vC v) .exact)) (ht1 : t[1]? = some (.cells [.int .i64 id, .int .i64 p, .int .i64 pl] .exact)) {s0 : Sl} (hs0 : ∀ a, s0.p = some a → H.length + 1 < a.1)
    {i : Nat} (hi : i < st.lv.length) {s : Sl} (hE : Em (H ++ t) s0 3 G s (rowsOf ctL ((outI (id * 1024 + p) pl (st.lv.take i)).map rlv))) (hn : s.len = (outI (id * 1024 + p) pl (st.lv.take i)).length) :
    ∃ s' G', ref08_State_with.s1 H H1 (s, putI (id * 1024 + p) (st.lv.take i), (i : Int), ()) G = some (.inl (s', putI (id * 1024 + p) (st.lv.take (i + 1)), ((i + 1 : Nat) : Int), ()), G') ∧
      Em (H ++ t) s0 3 G' s' (rowsOf ctL ((outI (id * 1024 + p) pl (st.lv.take (i + 1))).map rlv)) ∧ s'.len = (outI (id * 1024 + p) pl (st.lv.take (i + 1))).length := by
  obtain ⟨hG, hbox⟩ := h.box t ht (fun a ha => by have := hs0 a ha; omega) hE
  have hleaf : G[H.length + 1]? = some (.cells [.int .i64 id, .int .i64 p, .int .i64 pl] .exact) := hE.get (by rw [tl_get1]; exact ht1) fun o ho => by have := hs0 _ ho; simp only at this; omega
  have hlm : (st.lv.map rlv).length = st.lv.length := List.length_map _
  obtain ⟨b0, o0, r1, r2, _⟩ := Row.rd (cts := ctL) (rows := st.lv.map rlv) hG.lv (i := i) (by omega) (by decide)
  have r1 : Sl.at 3 v.2.1 (i : Int) = some (b0, o0) := r1
  have hx : (st.lv.map rlv)[i]'(by omega) = rlv st.lv[i] := List.getElem_map _
  rw [hx] at r2
  obtain ⟨x, hxx⟩ : ∃ x, x = st.lv[i] := ⟨_, rfl⟩
  have htk := take_snoc hi
  rw [← hxx] at htk r2
  have hmany := h.w.many
  obtain ⟨u1, u2⟩ := outI_snoc (k := id * 1024 + p) pl (l := st.lv.take i) (x := x) (by rw [← htk]; exact h.w.lv.sub (List.take_sublist _ _))
  have hol := outI_len (h.w.lv.sub (List.take_sublist i st.lv)) (id * 1024 + p) pl
  rw [List.length_take] at hol
  rw [htk, u1, u2]
  generalize outI (id * 1024 + p) pl (st.lv.take i) = out at hE hn hol ⊢
  generalize putI (id * 1024 + p) (st.lv.take i) = put at ⊢
  obtain ⟨new, hnew⟩ : ∃ new, new = out ++ (if put = false ∧ id * 1024 + p ≤ x.1 then [(id * 1024 + p, pl)] else []) ++ (if x.1 = id * 1024 + p then [] else [x]) := ⟨_, rfl⟩
  rw [← hnew]
  have r2' : rd G (.agg [.int .i64, .int .i64, .int .i64]) b0 o0 = (some (x.1 / 1024, x.1 % 1024, x.2, ()) : Option (Int × Int × Int × Unit)) := r2
  have hd : decide ((i : Int) < (v.2.1.len : Int)) = true := decide_eq_true (by rw [h.lvl]; omega)
  have hv : rdSl 3 G H.length 1 = some v.2.1 := rdSl_of hbox rfl
  have hGl : H.length + 1 < G.length := get_lt hleaf
  have l0 : ∀ (u : Heap), rdI .i64 (G ++ u) (H.length + 1) 0 = some id := fun u => rdI_of (by rw [List.getElem?_append_left hGl]; exact hleaf) rfl
  have l1 : ∀ (u : Heap), rdI .i64 (G ++ u) (H.length + 1) 1 = some p := fun u => rdI_of (by rw [List.getElem?_append_left hGl]; exact hleaf) rfl
  have l2 : ∀ (u : Heap), rd (G ++ u) (.agg [.int .i64, .int .i64, .int .i64]) (H.length + 1) 0 = (some (id, p, pl, ()) : Option (Int × Int × Int × Unit)) := fun u => rd_agg_of (by rw [List.getElem?_append_left hGl]; exact hleaf) (by simp) rfl
  unfold ref08_State_with.s1
  simp only [hv, hd, cond_true, Option.bind_some, r1]
  simp only [r2', hH1, Option.bind_some, Option.map_some, cond_true, cond_false, List.append_assoc, List.cons_append, List.nil_append, List.length_append, List.length_cons, List.length_nil, Nat.zero_add, rd_t0, rd_t1, rdI_t0, rdI_t1, rdB_t0, rdB_t1, rdM_t0, rdM_t1, rd_c1, rdI_c1, rdB_c1, rdM_c1, rdI_c0, rdB_c0, rdM_c0, wr_t0, wr_t1, wr_c0, wr_c1, setL, List.set, List.getElem?_cons_zero, List.getElem?_cons_succ, un_i, un_b, un_m, un_s, un_sl1, un_sl2, un_sl3, Nat.le_refl, rd_iiib, rd_iiiiii, rd_ibm, rd_iii, rd_iib, rd_ii, rd_3312, rd_iiii, rd_si, rd_33121, rd_33121i, slRow_t0, slRow_t1, sl_c0, sl_c1]
  simp only [l0, l1, l2, Option.bind_some]
  have hk : (if x.1 = id * 1024 + p then ([] : List (Int × Int)) else [x]) = if x.1 / 1024 = id ∧ x.1 % 1024 = p then [] else [x] := by
    by_cases e : x.1 = id * 1024 + p
    · rw [if_pos e, if_pos (by omega)]
    · rw [if_neg e, if_neg (by omega)]
  have hrows : ∀ (c : Bool), rowsOf ctL ((out ++ (if c = true then [(id * 1024 + p, pl)] else []) ++ if x.1 / 1024 = id ∧ x.1 % 1024 = p then [] else [x]).map rlv) = (rowsOf ctL (out.map rlv) ++ if c = true then [.int .i64 id, .int .i64 p, .int .i64 pl] else []) ++ if x.1 / 1024 = id ∧ x.1 % 1024 = p then [] else [.int .i64 (x.1 / 1024), .int .i64 (x.1 % 1024), .int .i64 x.2] := fun c => by
    rw [List.map_append, List.map_append, rowsOf_append', rowsOf_append']
    congr 1
    · congr 1
      cases c
      · rfl
      · show rowsOf ctL [rlv (id * 1024 + p, pl)] = _
        rw [show rlv (id * 1024 + p, pl) = (id, p, pl, ()) from tup3 (key_div id p hp.1 hp.2).1 (key_div id p hp.1 hp.2).2]; rfl
    · by_cases e : x.1 / 1024 = id ∧ x.1 % 1024 = p
      · rw [if_pos e, if_pos e]; rfl
      · rw [if_neg e, if_neg e]; rfl
  have hsl : ∀ b, G.length ≤ b → ∀ o, s.p ≠ some (b, o) := fun b hb o hp => by have := hE.g.lt hp; simp only at this; omega
  have hleafs : ∀ o, s.p ≠ some (H.length + 1, o) := fun o hp => by
    rcases hE.o _ hp with hh | ⟨o', hh⟩
    · have : t.length ≥ 2 := by have := (List.getElem?_eq_some_iff.1 ht1).1; omega
      simp only [List.length_append] at hh; omega
    · have := hs0 _ hh; simp only at this; omega
  obtain ⟨sT, GT, t1, t2, t3, t4⟩ := hE.add [.cells [.int .i64 (x.1 / 1024), .int .i64 (x.1 % 1024), .int .i64 x.2] .exact, .cells [.int .i64 id, .int .i64 p, .int .i64 pl] .exact] (by decide) (new := [.int .i64 id, .int .i64 p, .int .i64 pl]) (bytes := 24) rfl (by omega) (by omega)
  have t5 : GT[G.length]? = some (.cells [.int .i64 (x.1 / 1024), .int .i64 (x.1 % 1024), .int .i64 x.2] .exact) := by rw [t4 _ (by simp) (hsl _ (Nat.le_refl _)), tl_get0]; rfl
  have t6 : GT[H.length + 1]? = some (.cells [.int .i64 id, .int .i64 p, .int .i64 pl] .exact) := by rw [t4 _ (by simp; omega) hleafs, List.getElem?_append_left hGl]; exact hleaf
  obtain ⟨sT', GT', w1, w2, w3⟩ := withB_eq (put := true) (i := ((i + 1 : Nat) : Int)) t2 t5 t6 (by omega)
  have hEF := hE.push [.cells [.int .i64 (x.1 / 1024), .int .i64 (x.1 % 1024), .int .i64 x.2] .exact]
  obtain ⟨sF', GF', z1, z2, z3⟩ := withB_eq (put := put) (i := ((i + 1 : Nat) : Int)) (x1l := H.length + 1) (g := G.length) (a := x.1 / 1024) (b := x.1 % 1024) (c := x.2) (id := id) (p := p) (pl := pl) hEF (by rw [tl_get0]; rfl) (by rw [List.getElem?_append_left hGl]; exact hleaf) (by omega)
  have hlen : ∀ c : Bool, (out ++ (if c = true then [(id * 1024 + p, pl)] else []) ++ if x.1 / 1024 = id ∧ x.1 % 1024 = p then [] else [x]).length = out.length + (if c = true then 1 else 0) + if x.1 / 1024 = id ∧ x.1 % 1024 = p then 0 else 1 := fun c => by
    rw [List.length_append, List.length_append]
    congr 1
    · cases c <;> rfl
    · split <;> rfl
  have hT : put = false → id * 1024 + p ≤ x.1 → ∃ s' G', withB (H.length + 1) G.length ((i + 1 : Nat) : Int) ((sT, true, ()), GT) = some (.inl (s', (put || decide (id * 1024 + p ≤ x.1)), ((i + 1 : Nat) : Int), ()), G') ∧
      Em (H ++ t) s0 3 G' s' (rowsOf ctL (new.map rlv)) ∧ s'.len = new.length := fun e1 e2 => by
    have h1 := hrows true
    have h2 := hlen true
    rw [hnew, if_pos ⟨e1, e2⟩, hk, e1, decide_eq_true e2]
    rw [if_pos rfl] at h1 h2
    rw [h1, h2, if_pos rfl, if_pos rfl]
    exact ⟨sT', GT', w1, w2, by omega⟩
  have hF : ¬ (put = false ∧ id * 1024 + p ≤ x.1) → ∃ s' G', withB (H.length + 1) G.length ((i + 1 : Nat) : Int) ((s, put, ()), G ++ [.cells [.int .i64 (x.1 / 1024), .int .i64 (x.1 % 1024), .int .i64 x.2] .exact]) = some (.inl (s', (put || decide (id * 1024 + p ≤ x.1)), ((i + 1 : Nat) : Int), ()), G') ∧
      Em (H ++ t) s0 3 G' s' (rowsOf ctL (new.map rlv)) ∧ s'.len = new.length := fun e => by
    have h1 := hrows false
    have h2 := hlen false
    have e3 : (put || decide (id * 1024 + p ≤ x.1)) = put := by
      cases put with
      | true => rfl
      | false => rw [decide_eq_false (fun hh => e ⟨rfl, hh⟩)]; rfl
    rw [hnew, if_neg e, hk, e3]
    have nf : ¬ false = true := by decide
    rw [if_neg nf, if_neg nf] at h1 h2
    rw [h1, h2, List.append_nil]
    exact ⟨sF', GF', z1, z2, by omega⟩
  simp only [wrap_succ (show i < 9223372036854775807 by omega)]
  cases hput : put with
  | true =>
    rw [hput] at hF
    obtain ⟨s', G', y1, y2⟩ := hF (fun hh => by cases hh.1)
    simp only [Bool.not_true, cond_false, Option.bind_some]
    exact ⟨s', G', y1, y2⟩
  | false =>
    rw [hput] at hF hT
    by_cases h1 : id < x.1 / 1024
    · obtain ⟨s', G', y1, y2⟩ := hT rfl (by omega)
      simp only [decide_eq_true h1, Bool.not_false, cond_true, Option.bind_some, l2, Option.bind_some, Option.map_some, cond_true, cond_false, List.append_assoc, List.cons_append, List.nil_append, List.length_append, List.length_cons, List.length_nil, Nat.zero_add, rd_t0, rd_t1, rdI_t0, rdI_t1, rdB_t0, rdB_t1, rdM_t0, rdM_t1, rd_c1, rdI_c1, rdB_c1, rdM_c1, rdI_c0, rdB_c0, rdM_c0, wr_t0, wr_t1, wr_c0, wr_c1, setL, List.set, List.getElem?_cons_zero, List.getElem?_cons_succ, un_i, un_b, un_m, un_s, un_sl1, un_sl2, un_sl3, Nat.le_refl, rd_iiib, rd_iiiiii, rd_ibm, rd_iii, rd_iib, rd_ii, rd_3312, rd_iiii, rd_si, rd_33121, rd_33121i, slRow_t0, slRow_t1, sl_c0, sl_c1, t1]
      exact ⟨s', G', y1, y2⟩
    · by_cases h2 : x.1 / 1024 = id
      · by_cases h3 : p ≤ x.1 % 1024
        · obtain ⟨s', G', y1, y2⟩ := hT rfl (by omega)
          simp only [decide_eq_false h1, decide_eq_true h2, decide_eq_true h3, Bool.not_false, cond_true, cond_false, Option.bind_some, l2, Option.bind_some, Option.map_some, cond_true, cond_false, List.append_assoc, List.cons_append, List.nil_append, List.length_append, List.length_cons, List.length_nil, Nat.zero_add, rd_t0, rd_t1, rdI_t0, rdI_t1, rdB_t0, rdB_t1, rdM_t0, rdM_t1, rd_c1, rdI_c1, rdB_c1, rdM_c1, rdI_c0, rdB_c0, rdM_c0, wr_t0, wr_t1, wr_c0, wr_c1, setL, List.set, List.getElem?_cons_zero, List.getElem?_cons_succ, un_i, un_b, un_m, un_s, un_sl1, un_sl2, un_sl3, Nat.le_refl, rd_iiib, rd_iiiiii, rd_ibm, rd_iii, rd_iib, rd_ii, rd_3312, rd_iiii, rd_si, rd_33121, rd_33121i, slRow_t0, slRow_t1, sl_c0, sl_c1, t1]
          exact ⟨s', G', y1, y2⟩
        · obtain ⟨s', G', y1, y2⟩ := hF (fun hh => h3 (by have := hh.2; omega))
          simp only [decide_eq_false h1, decide_eq_true h2, decide_eq_false h3, Bool.not_false, cond_true, cond_false, Option.bind_some]
          exact ⟨s', G', y1, y2⟩
      · obtain ⟨s', G', y1, y2⟩ := hF (fun hh => by have := hh.2; omega)
        simp only [decide_eq_false h1, decide_eq_false h2, Bool.not_false, cond_true, cond_false, Option.bind_some]
        exact ⟨s', G', y1, y2⟩
/-- What a method leaves, once the boxes are written. -/
theorem rf_done (h : RfAt H v st) {t : Heap} {r : Nat} (hr : 0 < r) (hrt : r < t.length) {s0 sF : Sl} (hs0 : ∀ a, s0.p = some a → H.length + r < a.1) {es : Nat} {GF : Heap} {cs : List C} (hE : Em (H ++ t) s0 es GF sF cs)
    (hv : RfAt GF v' st') (hb : ∀ b, blkV v' b → blkV v b ∨ ∃ o, sF.p = some (b, o)) (x y : Blk) : RRes H v ((GF.set H.length x).set (H.length + r) y) v' st' := by
  have hoff : ∀ b, blkV v' b → b ≠ H.length ∧ b ≠ H.length + r ∧ (blkV v b ∨ H.length ≤ b) := fun b hbb => by
    rcases hb b hbb with hv | ⟨o, ho⟩
    · have := h.lt hv
      exact ⟨by omega, by omega, .inl hv⟩
    · rcases hE.o _ ho with hh | ⟨o', hh⟩
      · simp only [List.length_append] at hh
        exact ⟨by omega, by omega, .inr (by omega)⟩
      · have := hs0 _ hh
        simp only at this
        exact ⟨by omega, by omega, .inr (by omega)⟩
  refine ⟨hv.keep (set2_keep GF H.length (H.length + r) x y) fun b hbb hh => ?_, ⟨?_, fun b hbb _ => ?_⟩, fun b hbb => (hoff b hbb).2.2⟩
  · have := hoff b hbb
    omega
  · have := hE.k.len
    simp only [List.length_set, List.length_append] at this ⊢
    omega
  · rw [set_get' (by omega), set_get' (by omega), hE.k.same b (by simp only [List.length_append]; omega) fun ⟨o, ho⟩ => by have := hs0 _ ho; simp only at this; omega, List.getElem?_append_left hbb]
theorem rf_with (h : RfAt H v st) {id p pl : Int} (hp : 0 ≤ p ∧ p < 1024) {x : Int × Bool} (hx : afind st.sp id = some x) : ∃ v' G, ref08_State_with v (id, p, pl, ()) H = some ((v', ()), G) ∧ RRes H v G v' ⟨st.sp, ains st.lv (id * 1024 + p) pl, st.bd, st.wn⟩ := by
  have hmany := h.w.many
  generalize ht : [Blk.cells (vC v) .exact, .cells [.int .i64 id, .int .i64 p, .int .i64 pl] .exact, .cells [.sl 3 Sl.nil, .sl 3 Sl.nil, .sl 1 Sl.nil, .sl 2 Sl.nil] .exact, .cells [] .exact] = t
  have ht0 : t[0]? = some (.cells (vC v) .exact) := by rw [← ht]; rfl
  have ht1 : t[1]? = some (.cells [.int .i64 id, .int .i64 p, .int .i64 pl] .exact) := by rw [← ht]; rfl
  have ht2 : t[2]? = some (.cells [.sl 3 Sl.nil, .sl 3 Sl.nil, .sl 1 Sl.nil, .sl 2 Sl.nil] .exact) := by rw [← ht]; rfl
  have ht3 : t[3]? = some (.cells [] .exact) := by rw [← ht]; rfl
  have htl : t.length = 4 := by rw [← ht]; rfl
  have hs0 : ∀ a, (⟨some (H.length + 3, 0), 0, 0⟩ : Sl).p = some a → H.length + 2 < a.1 := fun a ha => by cases ha; simp only; omega
  have h0 : Em (H ++ t) ⟨some (H.length + 3, 0), 0, 0⟩ 3 (H ++ t) ⟨some (H.length + 3, 0), 0, 0⟩ [] := Em.start ⟨rfl, rfl, fun hh => (by cases hh), fun a ha => by cases ha; exact ⟨rfl, .inr (by rw [tl_get1]; exact ht3)⟩⟩
  obtain ⟨s, G, g1, g2, g3⟩ := emitI (cts := ctL) (step := ref08_State_with.s1 H (H ++ [.cells (vC v) .exact])) st.lv.length (fun i => (outI (id * 1024 + p) pl (st.lv.take i)).map rlv) (fun i => putI (id * 1024 + p) (st.lv.take i)) h0 rfl rfl rfl
    (fun i hi s G hE hn => by
      obtain ⟨s', G', r1, r2, r3⟩ := with_step h hp (pl := pl) (H1 := H ++ [.cells (vC v) .exact]) (by simp) ht0 ht1 (fun a ha => by have := hs0 a ha; omega) hi hE (by rw [hn, List.length_map])
      exact ⟨s', G', r1, r2, by rw [r3, List.length_map]⟩)
    (fun s G hE => by
      obtain ⟨_, hbox⟩ := h.box t ht0 (fun a ha => by have := hs0 a ha; omega) hE
      have hv : rdSl 3 G H.length 1 = some v.2.1 := rdSl_of hbox rfl
      unfold ref08_State_with.s1
      simp only [hv, Option.bind_some, decide_eq_false (show ¬ (st.lv.length : Int) < (v.2.1.len : Int) by rw [h.lvl]; omega), cond_false])
  rw [List.take_length] at g1 g2 g3
  have done : ∀ sF GF, Em (H ++ t) ⟨some (H.length + 3, 0), 0, 0⟩ 3 GF sF (rowsOf ctL ((ains st.lv (id * 1024 + p) pl).map rlv)) → sF.len = (ains st.lv (id * 1024 + p) pl).length →
      ∃ v' G', ((wr GF H.length 1 [.sl 3 sF]).bind fun (H39 : Heap) => Option.bind (α := RfV) (rd H39 (.agg [.sl 3, .sl 3, .sl 1, .sl 2]) H.length 0) fun v40 => (wr H39 (H.length + 2) 0 [.sl 3 v40.1, .sl 3 v40.2.1, .sl 1 v40.2.2.1, .sl 2 v40.2.2.2.1]).bind fun (H41 : Heap) =>
        Option.bind (α := RfV) (rd H41 (.agg [.sl 3, .sl 3, .sl 1, .sl 2]) (H.length + 2) 0) fun v42 => some ((v42, ()), H41)) = some ((v', ()), G') ∧ RRes H v G' v' ⟨st.sp, ains st.lv (id * 1024 + p) pl, st.bd, st.wn⟩ := fun sF GF hE hl => by
    obtain ⟨hG, hbox⟩ := h.box t ht0 (fun a ha => by have := hs0 a ha; omega) hE
    have hres : GF[H.length + 2]? = some (.cells [.sl 3 Sl.nil, .sl 3 Sl.nil, .sl 1 Sl.nil, .sl 2 Sl.nil] .exact) := hE.get (by rw [tl_get1]; exact ht2) fun o ho => by have := hs0 _ ho; simp only at this; omega
    obtain ⟨f1, f2, f3⟩ := fin4 (G := GF) (get_lt hbox) hres rfl (by omega) (v.1, sF, v.2.2.1, v.2.2.2.1, ())
    have hw : wr GF H.length 1 [.sl 3 sF] = some (GF.set H.length (.cells (vC (v.1, sF, v.2.2.1, v.2.2.2.1, ())) .exact)) := wr1_of hbox (by decide) (by simp [vC])
    refine ⟨(v.1, sF, v.2.2.1, v.2.2.2.1, ()), _, (bind_to hw).trans ((bind_to f1).trans ((bind_to f2).trans ((bind_to f3).trans rfl))), rf_done (v' := (v.1, sF, v.2.2.1, v.2.2.2.1, ())) h (by omega) (by omega) hs0 hE ⟨h.w.key hx hp pl, hG.sp, Row.grown hE.g, hG.bd, hG.wn, hG.spl, hl, hG.bdl, hG.wnl⟩ (fun b hb => ?_) _ _⟩
    rcases hb with hb | hb | hb | hb
    · exact .inl (.inl hb)
    · exact .inr hb
    · exact .inl (.inr (.inr (.inl hb)))
    · exact .inl (.inr (.inr (.inr hb)))
  have hall := outI_all (id * 1024 + p) pl st.lv
  subst ht
  unfold ref08_State_with
  simp only [List.append_assoc, List.cons_append, List.nil_append, List.length_append, List.length_cons, List.length_nil, Nat.zero_add]
  cases hput : putI (id * 1024 + p) st.lv with
  | true =>
    rw [hput] at g1 hall
    rw [if_neg (by decide), List.append_nil] at hall
    rw [hall] at g2 g3
    rw [List.length_map] at g3
    obtain ⟨v', G', d1, d2⟩ := done s G g2 g3
    exact ⟨v', G', (bind_to g1).trans d1, d2⟩
  | false =>
    rw [hput] at g1 hall
    rw [if_pos rfl] at hall
    have hleaf : G[H.length + 1]? = some (.cells [.int .i64 id, .int .i64 p, .int .i64 pl] .exact) := g2.get (by rw [tl_get1]; rfl) fun o ho => by have := hs0 _ ho; simp only at this; omega
    have hol := outI_len h.w.lv (id * 1024 + p) pl
    rw [List.length_map] at g3
    obtain ⟨s', G', u1, u2, u3, _⟩ := g2.add [.cells [.int .i64 id, .int .i64 p, .int .i64 pl] .exact] (by decide) (new := [.int .i64 id, .int .i64 p, .int .i64 pl]) (bytes := 24) rfl (by omega) (by omega)
    have e1 : rowsOf ctL ((ains st.lv (id * 1024 + p) pl).map rlv) = rowsOf ctL ((outI (id * 1024 + p) pl st.lv).map rlv) ++ [.int .i64 id, .int .i64 p, .int .i64 pl] := by
      rw [← hall, List.map_append, rowsOf_append']
      congr 1
      show rowsOf ctL [rlv (id * 1024 + p, pl)] = _
      rw [show rlv (id * 1024 + p, pl) = (id, p, pl, ()) from tup3 (key_div id p hp.1 hp.2).1 (key_div id p hp.1 hp.2).2]; rfl
    have e2 : s'.len = (ains st.lv (id * 1024 + p) pl).length := by rw [u3, g3, ← hall, List.length_append]; rfl
    obtain ⟨v', G2, d1, d2⟩ := done s' G' (by rw [e1]; exact u2) e2
    refine ⟨v', G2, (bind_to g1).trans ?_, d2⟩
    have l2 : rd G (.agg [.int .i64, .int .i64, .int .i64]) (H.length + 1) 0 = (some (id, p, pl, ()) : Option (Int × Int × Int × Unit)) := rd_agg_of hleaf (by simp) rfl
    simp only [Bool.not_false, cond_true, l2, Option.bind_some, Option.map_some, cond_true, cond_false, List.append_assoc, List.cons_append, List.nil_append, List.length_append, List.length_cons, List.length_nil, Nat.zero_add, rd_t0, rd_t1, rdI_t0, rdI_t1, rdB_t0, rdB_t1, rdM_t0, rdM_t1, rd_c1, rdI_c1, rdB_c1, rdM_c1, rdI_c0, rdB_c0, rdM_c0, wr_t0, wr_t1, wr_c0, wr_c1, setL, List.set, List.getElem?_cons_zero, List.getElem?_cons_succ, un_i, un_b, un_m, un_s, un_sl1, un_sl2, un_sl3, Nat.le_refl, rd_iiib, rd_iiiiii, rd_ibm, rd_iii, rd_iib, rd_ii, rd_3312, rd_iiii, rd_si, rd_33121, rd_33121i, slRow_t0, slRow_t1, sl_c0, sl_c1]
    exact (bind_to u1).trans d1
end
end Ev

namespace Ev
open Go (IntKind)

/-- Does a leaf stay? -/
def stayL (id p : Int) (x : Int × Int) : Bool := !(decide (x.1 / 1024 = id) && (decide (p < 0) || decide (x.1 % 1024 = p)))
section
variable {H G : Heap} {v : RfV} {lv : List (Int × Int)}
theorem without_step {K : Heap} {s0 : Sl} (hrow : Row K 3 v.2.1 (rowsOf ctL (lv.map rlv))) (hl : v.2.1.len = lv.length) {id p : Int} (hb : K[H.length]? = some (.cells (vC v) .exact)) (hb0 : ∀ o, s0.p ≠ some (H.length, o)) (hv0 : ∀ b o o', v.2.1.p = some (b, o) → s0.p ≠ some (b, o'))
    {i : Nat} (hi : i < lv.length) (hm : lv.length ≤ 20000) {s : Sl} {cs : List C} (hE : Em K s0 3 G s cs) (hn : s.len ≤ 20000) :
    ∃ s' G', ref08_State_without.s1 id p H (s, (i : Int), ()) G = some (.inl (s', ((i + 1 : Nat) : Int), ()), G') ∧ Em K s0 3 G' s' (cs ++ if stayL id p lv[i] = true then Tup.mk ctL (rlv lv[i]) else []) ∧ s'.len = s.len + if stayL id p lv[i] = true then 1 else 0 := by
  have hbox := hE.get hb hb0
  have hr := hE.row hrow hv0
  have hlm : (lv.map rlv).length = lv.length := List.length_map _
  obtain ⟨b0, o0, r1, r2, _⟩ := Row.rd (cts := ctL) (rows := lv.map rlv) hr (i := i) (by omega) (by decide)
  have r1 : Sl.at 3 v.2.1 (i : Int) = some (b0, o0) := r1
  have hx : (lv.map rlv)[i]'(by omega) = rlv lv[i] := List.getElem_map _
  rw [hx] at r2
  generalize lv[i] = x at r2 ⊢
  have r2' : rd G (.agg [.int .i64, .int .i64, .int .i64]) b0 o0 = (some (x.1 / 1024, x.1 % 1024, x.2, ()) : Option (Int × Int × Int × Unit)) := r2
  have hd : decide ((i : Int) < (v.2.1.len : Int)) = true := decide_eq_true (by rw [hl]; omega)
  have hv : rdSl 3 G H.length 1 = some v.2.1 := rdSl_of hbox rfl
  obtain ⟨sT, GT, t1, t2, t3, _⟩ := hE.add [.cells [.int .i64 (x.1 / 1024), .int .i64 (x.1 % 1024), .int .i64 x.2] .exact, .cells [.int .i64 (x.1 / 1024), .int .i64 (x.1 % 1024), .int .i64 x.2] .exact] (by decide) (new := [.int .i64 (x.1 / 1024), .int .i64 (x.1 % 1024), .int .i64 x.2]) (bytes := 24) rfl (by omega) (by omega)
  have hEF := hE.push [.cells [.int .i64 (x.1 / 1024), .int .i64 (x.1 % 1024), .int .i64 x.2] .exact]
  unfold ref08_State_without.s1
  simp only [hv, hd, cond_true, Option.bind_some, r1]
  simp only [r2', Option.bind_some, Option.map_some, cond_true, cond_false, List.append_assoc, List.cons_append, List.nil_append, List.length_append, List.length_cons, List.length_nil, Nat.zero_add, rd_t0, rd_t1, rdI_t0, rdI_t1, rdB_t0, rdB_t1, rdM_t0, rdM_t1, rd_c1, rdI_c1, rdB_c1, rdM_c1, rdI_c0, rdB_c0, rdM_c0, wr_t0, wr_t1, wr_c0, wr_c1, setL, List.set, List.getElem?_cons_zero, List.getElem?_cons_succ, un_i, un_b, un_m, un_s, un_sl1, un_sl2, un_sl3, Nat.le_refl, rd_iiib, rd_iiiiii, rd_ibm, rd_iii, rd_iib, rd_ii, rd_3312, rd_iiii, rd_si, rd_33121, rd_33121i, slRow_t0, slRow_t1, sl_c0, sl_c1, wrap_succ (show i < 9223372036854775807 by omega)]
  by_cases h1 : x.1 / 1024 = id
  · by_cases h2 : 0 ≤ p
    · by_cases h3 : x.1 % 1024 = p
      · have hs : stayL id p x = false := by unfold stayL; rw [decide_eq_true h1, decide_eq_true h3]; simp
        simp only [decide_eq_true h1, decide_eq_true h2, decide_eq_true h3, Bool.not_true, cond_true, cond_false, Option.bind_some, hs, Bool.false_eq_true, if_false, List.append_nil]
        exact ⟨_, _, rfl, hEF, rfl⟩
      · have hs : stayL id p x = true := by unfold stayL; rw [decide_eq_true h1, decide_eq_false h3, decide_eq_false (show ¬ p < 0 by omega)]; rfl
        simp only [decide_eq_true h1, decide_eq_true h2, decide_eq_false h3, Bool.not_true, Bool.not_false, cond_true, cond_false, Option.bind_some, hs, if_true, Option.bind_some, Option.map_some, cond_true, cond_false, List.append_assoc, List.cons_append, List.nil_append, List.length_append, List.length_cons, List.length_nil, Nat.zero_add, rd_t0, rd_t1, rdI_t0, rdI_t1, rdB_t0, rdB_t1, rdM_t0, rdM_t1, rd_c1, rdI_c1, rdB_c1, rdM_c1, rdI_c0, rdB_c0, rdM_c0, wr_t0, wr_t1, wr_c0, wr_c1, setL, List.set, List.getElem?_cons_zero, List.getElem?_cons_succ, un_i, un_b, un_m, un_s, un_sl1, un_sl2, un_sl3, Nat.le_refl, rd_iiib, rd_iiiiii, rd_ibm, rd_iii, rd_iib, rd_ii, rd_3312, rd_iiii, rd_si, rd_33121, rd_33121i, slRow_t0, slRow_t1, sl_c0, sl_c1, t1]
        exact ⟨_, _, rfl, t2, t3⟩
    · have hs : stayL id p x = false := by unfold stayL; rw [decide_eq_true h1, decide_eq_true (show p < 0 by omega)]; simp
      simp only [decide_eq_true h1, decide_eq_false h2, Bool.not_true, cond_true, cond_false, Option.bind_some, hs, Bool.false_eq_true, if_false, List.append_nil]
      exact ⟨_, _, rfl, hEF, rfl⟩
  · have hs : stayL id p x = true := by unfold stayL; rw [decide_eq_false h1]; rfl
    simp only [decide_eq_false h1, Bool.not_false, cond_true, Option.bind_some, hs, if_true, Option.bind_some, Option.map_some, cond_true, cond_false, List.append_assoc, List.cons_append, List.nil_append, List.length_append, List.length_cons, List.length_nil, Nat.zero_add, rd_t0, rd_t1, rdI_t0, rdI_t1, rdB_t0, rdB_t1, rdM_t0, rdM_t1, rd_c1, rdI_c1, rdB_c1, rdM_c1, rdI_c0, rdB_c0, rdM_c0, wr_t0, wr_t1, wr_c0, wr_c1, setL, List.set, List.getElem?_cons_zero, List.getElem?_cons_succ, un_i, un_b, un_m, un_s, un_sl1, un_sl2, un_sl3, Nat.le_refl, rd_iiib, rd_iiiiii, rd_ibm, rd_iii, rd_iib, rd_ii, rd_3312, rd_iiii, rd_si, rd_33121, rd_33121i, slRow_t0, slRow_t1, sl_c0, sl_c1, t1]
    exact ⟨_, _, rfl, t2, t3⟩
theorem stay_rows (id p : Int) : ∀ lv : List (Int × Int), (lv.map fun x => if stayL id p x = true then Tup.mk ctL (rlv x) else []).flatten = rowsOf ctL ((lv.filter (stayL id p)).map rlv) ∧ (lv.map fun x => if stayL id p x = true then 1 else 0).sum = (lv.filter (stayL id p)).length
  | [] => ⟨rfl, rfl⟩
  | x :: lv => by
    obtain ⟨h1, h2⟩ := stay_rows id p lv
    rw [List.map_cons, List.flatten_cons, h1, List.map_cons, List.sum_cons, h2, List.filter_cons]
    by_cases e : stayL id p x = true
    · rw [if_pos e, if_pos e, if_pos e, List.length_cons]
      exact ⟨rfl, by omega⟩
    · rw [if_neg e, if_neg e, if_neg e]
      exact ⟨rfl, by omega⟩
theorem sum_ones (id p : Int) : ∀ lv : List (Int × Int), (lv.map fun x => if stayL id p x = true then 1 else 0).sum ≤ lv.length
  | [] => Nat.le_refl _
  | x :: lv => by
    have := sum_ones id p lv
    rw [List.map_cons, List.sum_cons, List.length_cons]
    split <;> omega
/-- Leaves away: the others' slice. -/
theorem rf_without (hrow : Row H 3 v.2.1 (rowsOf ctL (lv.map rlv))) (hl : v.2.1.len = lv.length) (hm : lv.length ≤ 19000) (id p : Int) : ∃ s G, ref08_State_without v id p H = some (((v.1, s, v.2.2.1, v.2.2.2.1, ()), ()), G) ∧
    Row G 3 s (rowsOf ctL ((lv.filter (stayL id p)).map rlv)) ∧ s.len = (lv.filter (stayL id p)).length ∧ Keep (fun _ => False) H G ∧ ∀ b o, s.p = some (b, o) → H.length + 2 ≤ b := by
  generalize ht : [Blk.cells (vC v) .exact, .cells [.sl 3 Sl.nil, .sl 3 Sl.nil, .sl 1 Sl.nil, .sl 2 Sl.nil] .exact, .cells [] .exact] = t
  have ht0 : (H ++ t)[H.length]? = some (.cells (vC v) .exact) := by rw [tl_get0, ← ht]; rfl
  have ht1 : (H ++ t)[H.length + 1]? = some (.cells [.sl 3 Sl.nil, .sl 3 Sl.nil, .sl 1 Sl.nil, .sl 2 Sl.nil] .exact) := by rw [tl_get1, ← ht]; rfl
  have ht2 : (H ++ t)[H.length + 2]? = some (.cells [] .exact) := by rw [tl_get1, ← ht]; rfl
  have htl : t.length = 3 := by rw [← ht]; rfl
  have hoff : ∀ b, b < H.length + 2 → ∀ o, (⟨some (H.length + 2, 0), 0, 0⟩ : Sl).p ≠ some (b, o) := fun b hb o hh => by cases hh; omega
  have hrow1 : Row (H ++ t) 3 v.2.1 (rowsOf ctL (lv.map rlv)) := hrow.keep (Keep.app (fun _ => False) H t) fun _ _ _ hf => hf
  have h0 : Em (H ++ t) ⟨some (H.length + 2, 0), 0, 0⟩ 3 (H ++ t) ⟨some (H.length + 2, 0), 0, 0⟩ [] := Em.start ⟨rfl, rfl, fun hh => (by cases hh), fun a ha => by cases ha; exact ⟨rfl, .inr ht2⟩⟩
  obtain ⟨s, G, g1, g2, g3⟩ := emitN (step := ref08_State_without.s1 id p H) lv (fun x => if stayL id p x = true then Tup.mk ctL (rlv x) else []) (fun x => if stayL id p x = true then 1 else 0) h0
    (fun i hi s G cs hE hn => without_step hrow1 hl ht0 (hoff _ (by omega)) (fun b o o' hp => hoff b (by have := hrow.lt hp; omega) o') hi (by omega) hE (by
      have h1 := sum_take_le (lv.map fun x => if stayL id p x = true then 1 else 0) i
      have h2 := sum_ones id p lv
      rw [← List.map_take] at h1
      rw [hn]; simp only; omega))
    (fun s G cs hE => by
      have hv : rdSl 3 G H.length 1 = some v.2.1 := rdSl_of (hE.get ht0 (hoff _ (by omega))) rfl
      unfold ref08_State_without.s1
      simp only [hv, Option.bind_some, decide_eq_false (show ¬ (lv.length : Int) < (v.2.1.len : Int) by rw [hl]; omega), cond_false])
  rw [List.nil_append, (stay_rows id p lv).1] at g2
  rw [(stay_rows id p lv).2] at g3
  have hbox := g2.get ht0 (hoff _ (by omega))
  have hres := g2.get ht1 (hoff _ (by omega))
  obtain ⟨f1, f2, f3⟩ := fin4 (G := G) (get_lt hbox) hres rfl (by omega) (v.1, s, v.2.2.1, v.2.2.2.1, ())
  have hw : wr G H.length 1 [.sl 3 s] = some (G.set H.length (.cells (vC (v.1, s, v.2.2.1, v.2.2.2.1, ())) .exact)) := wr1_of hbox (by decide) (by simp [vC])
  have hso : ∀ b o, s.p = some (b, o) → H.length + 2 ≤ b := fun b o hp => by
    rcases g2.o _ hp with hh | ⟨o', hh⟩
    · simp only [List.length_append] at hh; omega
    · have hh : some (H.length + 2, 0) = some (b, o') := hh
      cases hh; omega
  have kf : Keep (fun b => b = H.length ∨ b = H.length + 1) G ((G.set H.length (.cells (vC (v.1, s, v.2.2.1, v.2.2.2.1, ())) .exact)).set (H.length + 1) (.cells (vC (v.1, s, v.2.2.1, v.2.2.2.1, ())) .exact)) := set2_keep _ _ _ _ _
  subst ht
  refine ⟨s, _, ?_, (Row.grown g2.g).keep kf fun b o hp hh => by have := hso b o hp; omega, by rw [g3]; exact Nat.zero_add _, ?_, hso⟩
  · unfold ref08_State_without
    simp only [List.append_assoc, List.cons_append, List.nil_append, List.length_append, List.length_cons, List.length_nil, Nat.zero_add]
    exact (bind_to g1).trans ((bind_to hw).trans ((bind_to f1).trans ((bind_to f2).trans ((bind_to f3).trans rfl))))
  · refine ⟨by have h1 := g2.k.len; have h2 := kf.len; simp only [List.length_append] at h1; omega, fun b hb _ => ?_⟩
    have hne : ¬ (b = H.length ∨ b = H.length + 1) := by omega
    have hbG : b < G.length := by have h1 := g2.k.len; simp only [List.length_append] at h1; omega
    rw [kf.same b hbG hne, g2.k.same b (by simp only [List.length_append]; omega) (fun ⟨o, ho⟩ => hoff b (by omega) o ho), List.getElem?_append_left hb]
end
theorem stay_off (lv : List (Int × Int)) (id : Int) {p : Int} (hp : p < 0) : lv.filter (stayL id p) = lvOff lv id := by
  unfold lvOff
  congr 1
  funext x
  unfold stayL
  rw [decide_eq_true hp]; simp
theorem adrop_filter {α : Type} {l : List (Int × α)} (h : Asc l) (k : Int) : l.filter (fun x => !decide (x.1 = k)) = adrop l k := by
  induction l with
  | nil => rfl
  | cons x l ih =>
    rw [adrop, List.filter_cons]
    by_cases e : x.1 = k
    · rw [if_neg (by simp [e]), if_pos e]
      exact List.filter_eq_self.2 fun y hy => by have := h.head hy; simp; omega
    · rw [if_pos (by simp [e]), if_neg e, ih h.tail]
theorem stay_drop {lv : List (Int × Int)} (h : Asc lv) (id : Int) {p : Int} (hp : 0 ≤ p ∧ p < 1024) : lv.filter (stayL id p) = adrop lv (id * 1024 + p) := by
  rw [← adrop_filter h]
  congr 1
  funext x
  unfold stayL
  rw [decide_eq_false (show ¬ p < 0 by omega)]
  by_cases e : x.1 = id * 1024 + p
  · rw [decide_eq_true e, decide_eq_true (show x.1 / 1024 = id by omega), decide_eq_true (show x.1 % 1024 = p by omega)]; rfl
  · rw [decide_eq_false e]
    by_cases e1 : x.1 / 1024 = id
    · rw [decide_eq_false (show ¬ x.1 % 1024 = p by omega)]; simp
    · rw [decide_eq_false e1]; rfl
end Ev

namespace Ev
open Go (IntKind)

section
variable {H G : Heap} {v : RfV} {st : Sta}
theorem rf_find (h : RfAt H v st) (id : Int) : ∃ r, ref08_State_find v id H = some ((r, ()), H ++ [.cells (vC v) .exact]) ∧ (afind st.sp id = none → r = -1) ∧ ∀ x, afind st.sp id = some x → ∃ i : Nat, r = (i : Int) ∧ ∃ hi : i < st.sp.length, st.sp[i] = (id, x) := by
  have hH := h.keep (Keep.app (fun _ => False) H [.cells (vC v) .exact]) fun _ _ hf => hf
  have hv : rdSl 3 (H ++ [.cells (vC v) .exact]) H.length 0 = some v.1 := rdSl_of (by rw [tl_get0]; rfl) rfl
  have hlm : (st.sp.map rsp).length = st.sp.length := List.length_map _
  have hfew := h.w.few
  obtain ⟨x, G, g1, rfl, g2⟩ := loop_rise (step := ref08_State_find.s1 id H) st.sp.length (fun i y G => y = ((i : Int), ()) ∧ G = H ++ [.cells (vC v) .exact] ∧ ∀ j (hj : j < st.sp.length), j < i → st.sp[j].1 ≠ id)
    (fun x G => G = H ++ [.cells (vC v) .exact] ∧ ((x = .inl () ∧ afind st.sp id = none) ∨ ∃ i : Nat, x = .inr ((i : Int), ()) ∧ ∃ hi : i < st.sp.length, st.sp[i].1 = id))
    (fun i y G hi ⟨hy, hG, hj⟩ => by
      subst hy hG
      obtain ⟨b0, o0, r1, r2, _, cs, bk, r3, r4, r5⟩ := Row.rd (cts := ctP) (rows := st.sp.map rsp) hH.sp (i := i) (by omega) (by decide)
      have r1 : Sl.at 3 v.1 (i : Int) = some (b0, o0) := r1
      have hx : (st.sp.map rsp)[i]'(by omega) = rsp st.sp[i] := List.getElem_map _
      rw [hx] at r5
      have r6 : rdI .i64 (H ++ [.cells (vC v) .exact]) b0 o0 = some st.sp[i].1 := by
        refine rdI_of r3 ?_
        have := congrArg (fun l => l[0]?) r5
        simp only [List.getElem?_take, List.getElem?_drop] at this
        have h2 : cs[o0]? = (Tup.mk ctP (rsp st.sp[i]))[0]? := by simpa using this
        exact h2
      have hd : decide ((i : Int) < (v.1.len : Int)) = true := decide_eq_true (by rw [h.spl]; omega)
      by_cases e : st.sp[i].1 = id
      · right
        refine ⟨_, _, ?_, rfl, .inr ⟨i, rfl, hi, e⟩⟩
        unfold ref08_State_find.s1
        simp only [hv, hd, cond_true, Option.bind_some, r1, r6, decide_eq_true e]
      · left
        refine ⟨_, _, ?_, rfl, rfl, fun j hjl hji => ?_⟩
        · unfold ref08_State_find.s1
          simp only [hv, hd, cond_true, Option.bind_some, r1, r6, decide_eq_false e, cond_false]
          rw [wrap_succ (by omega)]
        · by_cases e2 : j = i
          · subst e2; exact e
          · exact hj j hjl (by omega))
    (fun y G ⟨hy, hG, hj⟩ => by
      subst hy hG
      refine ⟨_, _, ?_, rfl, .inl ⟨rfl, afind_none fun x hx e => ?_⟩⟩
      · unfold ref08_State_find.s1
        simp only [hv, Option.bind_some, decide_eq_false (show ¬ (st.sp.length : Int) < (v.1.len : Int) by rw [h.spl]; omega), cond_false]
      · obtain ⟨j, hj1, rfl⟩ := List.getElem_of_mem hx
        exact hj j hj1 hj1 e) (y := (0, ())) (H := H ++ [.cells (vC v) .exact]) ⟨rfl, rfl, fun j _ hj => absurd hj (Nat.not_lt_zero _)⟩
  have hg : ∀ r, Sum.elim (fun _ => some (((-1 : Int), ()), H ++ [Blk.cells (vC v) .exact])) (fun z : Int × Unit => some ((z.1, ()), H ++ [Blk.cells (vC v) .exact])) x = some ((r, ()), H ++ [Blk.cells (vC v) .exact]) → ref08_State_find v id H = some ((r, ()), H ++ [.cells (vC v) .exact]) := fun r hr => by
    unfold ref08_State_find
    exact (bind_to g1).trans hr
  rcases g2 with ⟨rfl, hn⟩ | ⟨i, rfl, hi, he⟩
  · exact ⟨-1, hg _ rfl, fun _ => rfl, fun x hx => by rw [hn] at hx; cases hx⟩
  · have hf := h.w.sp.find (k := st.sp[i].1) (v := st.sp[i].2) (List.getElem_mem hi)
    rw [he] at hf
    exact ⟨(i : Int), hg _ rfl, fun hn => (by rw [hf] at hn; cases hn), fun x hx => by
      rw [hf] at hx
      cases hx
      exact ⟨i, rfl, hi, by rw [← he]⟩⟩
theorem row_int {K : Heap} {cts : List CT} {s : Sl} {rows : List (Tup cts)} (h : Row K cts.length s (rowsOf cts rows)) {i : Nat} (hi : i < rows.length) (hpos : 0 < cts.length) {j : Nat} {n : Int} (hj : j < cts.length) (hn : (Tup.mk cts rows[i])[j]? = some (.int .i64 n)) :
    ∃ b o, Sl.at cts.length s (i : Int) = some (b, o) ∧ rdI .i64 K b (o + j) = some n := by
  obtain ⟨b, o, r1, _, _, cs, bk, r3, r4, r5⟩ := h.rd hi hpos
  refine ⟨b, o, r1, rdI_of r3 ?_⟩
  have := congrArg (fun l => l[j]?) r5
  simp only [List.getElem?_take, List.getElem?_drop, if_pos hj, hn] at this
  exact this
theorem rf_refs (h : RfAt H v st) (c : Int) : ref08_State_Refs v c H = some (((cnt st.lv c : Int), ()), H ++ [.cells (vC v) .exact]) := by
  have hH := h.keep (Keep.app (fun _ => False) H [.cells (vC v) .exact]) fun _ _ hf => hf
  have hv : rdSl 3 (H ++ [.cells (vC v) .exact]) H.length 1 = some v.2.1 := rdSl_of (by rw [tl_get0]; rfl) rfl
  have hlm : (st.lv.map rlv).length = st.lv.length := List.length_map _
  have hmany := h.w.many
  have g1 : loopW (ref08_State_Refs.s1 c H) (0, 0, ()) (H ++ [.cells (vC v) .exact]) = some (((cnt st.lv c : Int), ()), H ++ [.cells (vC v) .exact]) := by
    refine loop_for' st.lv.length (fun i => ((cnt (st.lv.take i) c : Int), (i : Int), ())) (fun _ => H ++ [.cells (vC v) .exact]) rfl rfl (fun i hi => ?_) ?_
    · have hx : (st.lv.map rlv)[i]'(by omega) = rlv st.lv[i] := List.getElem_map _
      obtain ⟨b0, o0, r1, r2⟩ := row_int (cts := ctL) (rows := st.lv.map rlv) hH.lv (i := i) (by omega) (by decide) (j := 2) (n := st.lv[i].2) (by decide) (by rw [hx]; rfl)
      have r1 : Sl.at 3 v.2.1 (i : Int) = some (b0, o0) := r1
      have hd : decide ((i : Int) < (v.2.1.len : Int)) = true := decide_eq_true (by rw [h.lvl]; omega)
      have hc := cnt_le (st.lv.take i) c
      rw [List.length_take] at hc
      unfold ref08_State_Refs.s1
      simp only [hv, hd, cond_true, Option.bind_some, r1, r2]
      rw [take_snoc hi, cnt_append, cnt_cons, cnt_nil, wrap_succ (by omega), wrap_succ (by omega)]
      by_cases e : st.lv[i].2 = c
      · rw [decide_eq_true e, if_pos e]; rfl
      · rw [decide_eq_false e, if_neg e]; rfl
    · unfold ref08_State_Refs.s1
      simp only [hv, Option.bind_some, decide_eq_false (show ¬ (st.lv.length : Int) < (v.2.1.len : Int) by rw [h.lvl]; omega), cond_false, List.take_length]
  unfold ref08_State_Refs
  exact (bind_to g1).trans rfl
theorem pgs_snoc (l : List (Int × Int)) (x : Int × Int) (id : Int) : (pgs (l ++ [x]) id).length = (pgs l id).length + if x.1 / 1024 = id then 1 else 0 := by
  rw [pgs_len, pgs_len, List.filter_append, List.length_append, List.filter_cons]
  by_cases e : x.1 / 1024 = id
  · rw [if_pos (decide_eq_true e), if_pos e]; rfl
  · rw [if_neg (by simpa using e), if_neg e]; rfl
theorem rf_pages (h : RfAt H v st) (id : Int) : ref08_State_Pages v id H = some ((((pgs st.lv id).length : Int), ()), H ++ [.cells (vC v) .exact]) := by
  have hH := h.keep (Keep.app (fun _ => False) H [.cells (vC v) .exact]) fun _ _ hf => hf
  have hv : rdSl 3 (H ++ [.cells (vC v) .exact]) H.length 1 = some v.2.1 := rdSl_of (by rw [tl_get0]; rfl) rfl
  have hlm : (st.lv.map rlv).length = st.lv.length := List.length_map _
  have hmany := h.w.many
  have g1 : loopW (ref08_State_Pages.s1 id H) (0, 0, ()) (H ++ [.cells (vC v) .exact]) = some ((((pgs st.lv id).length : Int), ()), H ++ [.cells (vC v) .exact]) := by
    refine loop_for' st.lv.length (fun i => (((pgs (st.lv.take i) id).length : Int), (i : Int), ())) (fun _ => H ++ [.cells (vC v) .exact]) rfl rfl (fun i hi => ?_) ?_
    · have hx : (st.lv.map rlv)[i]'(by omega) = rlv st.lv[i] := List.getElem_map _
      obtain ⟨b0, o0, r1, r2⟩ := row_int (cts := ctL) (rows := st.lv.map rlv) hH.lv (i := i) (by omega) (by decide) (j := 0) (n := st.lv[i].1 / 1024) (by decide) (by rw [hx]; rfl)
      have r1 : Sl.at 3 v.2.1 (i : Int) = some (b0, o0) := r1
      have hd : decide ((i : Int) < (v.2.1.len : Int)) = true := decide_eq_true (by rw [h.lvl]; omega)
      have hc : (pgs (st.lv.take i) id).length ≤ (st.lv.take i).length := by rw [pgs_len]; exact List.length_filter_le _ _
      rw [List.length_take] at hc
      rw [Nat.add_zero] at r2
      unfold ref08_State_Pages.s1
      simp only [hv, hd, cond_true, Option.bind_some, r1, r2]
      rw [take_snoc hi, pgs_snoc, wrap_succ (by omega), wrap_succ (by omega)]
      by_cases e : st.lv[i].1 / 1024 = id
      · rw [decide_eq_true e, if_pos e]; rfl
      · rw [decide_eq_false e, if_neg e]; rfl
    · unfold ref08_State_Pages.s1
      simp only [hv, Option.bind_some, decide_eq_false (show ¬ (st.lv.length : Int) < (v.2.1.len : Int) by rw [h.lvl]; omega), cond_false, List.take_length]
  unfold ref08_State_Pages
  exact (bind_to g1).trans rfl
end
end Ev

namespace Ev
open Go (IntKind)

section
variable {H G : Heap} {v : RfV} {st : Sta}
theorem rf_get (h : RfAt H v st) (id p : Int) : ∃ G, ref08_State_Get v id p H = some (((afind (pgs st.lv id) p).getD 0, (afind (pgs st.lv id) p).isSome, ()), G) ∧ Keep (fun _ => False) H G := by
  have hk0 := Keep.app (fun _ => False) H [.cells (vC v) .exact]
  have hH := h.keep hk0 fun _ _ hf => hf
  have hb0 : (H ++ [Blk.cells (vC v) .exact])[H.length]? = some (.cells (vC v) .exact) := by rw [tl_get0]; rfl
  have hlm : (st.lv.map rlv).length = st.lv.length := List.length_map _
  have hmany := h.w.many
  obtain ⟨x, G, g1, g2, g3⟩ := loop_rise (step := ref08_State_Get.s1 id p H) st.lv.length (fun i y G => y = ((i : Int), ()) ∧ Keep (fun _ => False) (H ++ [.cells (vC v) .exact]) G ∧ ∀ j (hj : j < st.lv.length), j < i → ¬ (st.lv[j].1 / 1024 = id ∧ st.lv[j].1 % 1024 = p))
    (fun x G => Keep (fun _ => False) (H ++ [.cells (vC v) .exact]) G ∧ ((x = .inl () ∧ afind (pgs st.lv id) p = none) ∨ ∃ c, x = .inr (c, true, ()) ∧ afind (pgs st.lv id) p = some c))
    (fun i y G hi ⟨hy, hk, hj⟩ => by
      subst hy
      have hG := hH.keep hk fun _ _ hf => hf
      have hv : rdSl 3 G H.length 1 = some v.2.1 := rdSl_of (hk.get hb0 fun hf => hf) rfl
      obtain ⟨b0, o0, r1, r2, _⟩ := Row.rd (cts := ctL) (rows := st.lv.map rlv) hG.lv (i := i) (by omega) (by decide)
      have r1 : Sl.at 3 v.2.1 (i : Int) = some (b0, o0) := r1
      have hx : (st.lv.map rlv)[i]'(by omega) = rlv st.lv[i] := List.getElem_map _
      rw [hx] at r2
      have r2' : rd G (.agg [.int .i64, .int .i64, .int .i64]) b0 o0 = (some (st.lv[i].1 / 1024, st.lv[i].1 % 1024, st.lv[i].2, ()) : Option (Int × Int × Int × Unit)) := r2
      have hd : decide ((i : Int) < (v.2.1.len : Int)) = true := decide_eq_true (by rw [h.lvl]; omega)
      have hk2 := hk.trans (Keep.app (fun _ => False) G [.cells [.int .i64 (st.lv[i].1 / 1024), .int .i64 (st.lv[i].1 % 1024), .int .i64 st.lv[i].2] .exact])
      have hno : ¬ (st.lv[i].1 / 1024 = id ∧ st.lv[i].1 % 1024 = p) → ∀ j (hj : j < st.lv.length), j < i + 1 → ¬ (st.lv[j].1 / 1024 = id ∧ st.lv[j].1 % 1024 = p) := fun e j hjl hji => by
        by_cases e2 : j = i
        · subst e2; exact e
        · exact hj j hjl (by omega)
      unfold ref08_State_Get.s1
      simp only [hv, hd, cond_true, Option.bind_some, r1]
      simp only [r2', Option.bind_some, Option.map_some, cond_true, cond_false, List.append_assoc, List.cons_append, List.nil_append, List.length_append, List.length_cons, List.length_nil, Nat.zero_add, rd_t0, rd_t1, rdI_t0, rdI_t1, rdB_t0, rdB_t1, rdM_t0, rdM_t1, rd_c1, rdI_c1, rdB_c1, rdM_c1, rdI_c0, rdB_c0, rdM_c0, wr_t0, wr_t1, wr_c0, wr_c1, setL, List.set, List.getElem?_cons_zero, List.getElem?_cons_succ, un_i, un_b, un_m, un_s, un_sl1, un_sl2, un_sl3, Nat.le_refl, rd_iiib, rd_iiiiii, rd_ibm, rd_iii, rd_iib, rd_ii, rd_3312, rd_iiii, rd_si, rd_33121, rd_33121i, slRow_t0, slRow_t1, sl_c0, sl_c1, wrap_succ (show i < 9223372036854775807 by omega)]
      by_cases e1 : st.lv[i].1 / 1024 = id
      · by_cases e2 : st.lv[i].1 % 1024 = p
        · right
          simp only [decide_eq_true e1, decide_eq_true e2, cond_true]
          refine ⟨_, _, rfl, hk2, .inr ⟨st.lv[i].2, rfl, ?_⟩⟩
          have hf := h.w.lv.find (k := st.lv[i].1) (v := st.lv[i].2) (List.getElem_mem hi)
          rw [pgs_find h.w.lv, if_pos (by omega), show id * 1024 + p = st.lv[i].1 by omega]
          exact hf
        · left
          simp only [decide_eq_true e1, decide_eq_false e2, cond_true, cond_false]
          exact ⟨_, _, rfl, rfl, hk2, hno fun hh => e2 hh.2⟩
      · left
        simp only [decide_eq_false e1, cond_false]
        exact ⟨_, _, rfl, rfl, hk2, hno fun hh => e1 hh.1⟩)
    (fun y G ⟨hy, hk, hj⟩ => by
      subst hy
      have hv : rdSl 3 G H.length 1 = some v.2.1 := rdSl_of (hk.get hb0 fun hf => hf) rfl
      refine ⟨_, _, ?_, hk, .inl ⟨rfl, afind_none fun y hy e => ?_⟩⟩
      · unfold ref08_State_Get.s1
        simp only [hv, Option.bind_some, decide_eq_false (show ¬ (st.lv.length : Int) < (v.2.1.len : Int) by rw [h.lvl]; omega), cond_false]
      · have hm := pgs_mem hy
        obtain ⟨j, hj1, hj2⟩ := List.getElem_of_mem hm.2.2
        refine hj j hj1 hj1 ?_
        rw [hj2]
        simp only
        omega) (y := (0, ())) (H := H ++ [.cells (vC v) .exact]) ⟨rfl, Keep.refl _ _, fun j _ hj => absurd hj (Nat.not_lt_zero _)⟩
  refine ⟨G, ?_, hk0.trans g2⟩
  unfold ref08_State_Get
  refine (bind_to g1).trans ?_
  rcases g3 with ⟨rfl, hn⟩ | ⟨c, rfl, hc⟩
  · rw [hn]; rfl
  · rw [hc]; rfl
theorem rf_snoc (l : List (Int × Int)) (x : Int × Int) : (rfOf (l ++ [x])).length = (rfOf l).length + if cnt l x.2 = 0 then 1 else 0 := by
  have e : ains (rfOf l) x.2 ((cnt l x.2 : Int) + 1) = rfOf (l ++ [x]) := ((rfOf_ok l).more (lv' := l ++ [x]) fun c => by rw [cnt_append, cnt_cons, cnt_nil]; omega).uniq (rfOf_ok _)
  rw [← e, ains_length (rfOf_ok l).asc, (rfOf_ok l).find]
  by_cases h0 : cnt l x.2 = 0
  · rw [if_pos h0, if_pos h0]; rfl
  · rw [if_neg h0, if_neg h0]; rfl
theorem rf_live (h : RfAt H v st) : ref08_State_Live v H = some ((((rfOf st.lv).length : Int), ()), H ++ [.cells (vC v) .exact]) := by
  have hH := h.keep (Keep.app (fun _ => False) H [.cells (vC v) .exact]) fun _ _ hf => hf
  have hv : rdSl 3 (H ++ [.cells (vC v) .exact]) H.length 1 = some v.2.1 := rdSl_of (by rw [tl_get0]; rfl) rfl
  have hlm : (st.lv.map rlv).length = st.lv.length := List.length_map _
  have hmany := h.w.many
  have row : ∀ i (hi : i < st.lv.length), ∃ b o, Sl.at 3 v.2.1 (i : Int) = some (b, o) ∧ rdI .i64 (H ++ [.cells (vC v) .exact]) b (o + 2) = some st.lv[i].2 := fun i hi => by
    have hx : (st.lv.map rlv)[i]'(by omega) = rlv st.lv[i] := List.getElem_map _
    exact row_int (cts := ctL) (rows := st.lv.map rlv) hH.lv (i := i) (by omega) (by decide) (j := 2) (n := st.lv[i].2) (by decide) (by rw [hx]; rfl)
  have hle : ∀ i, (rfOf (st.lv.take i)).length ≤ i := fun i => by
    induction i with
    | zero => exact Nat.le_refl _
    | succ i ih =>
      by_cases hi : i < st.lv.length
      · rw [take_snoc hi, rf_snoc]; split <;> omega
      · rw [List.take_of_length_le (by omega)]
        rw [List.take_of_length_le (by omega)] at ih
        omega
  have inner : ∀ (c i : Nat) (hi : i < st.lv.length), loopW (ref08_State_Live.s1 H ((c : Int), (i : Int), ())) (true, 0, ()) (H ++ [.cells (vC v) .exact]) = some ((decide (cnt (st.lv.take i) st.lv[i].2 = 0), ()), H ++ [.cells (vC v) .exact]) := fun c i hi => by
    obtain ⟨b1, o1, r1, r2⟩ := row i hi
    refine loop_for' i (fun j => (decide (cnt (st.lv.take j) st.lv[i].2 = 0), (j : Int), ())) (fun _ => H ++ [.cells (vC v) .exact]) rfl rfl (fun j hj => ?_) ?_
    · obtain ⟨b2, o2, r3, r4⟩ := row j (by omega)
      have hw := wrap_succ (show j < 9223372036854775807 by omega)
      unfold ref08_State_Live.s1
      simp only [decide_eq_true (show (j : Int) < (i : Int) by omega), cond_true]
      rw [take_snoc (show j < st.lv.length by omega), cnt_append, cnt_cons, cnt_nil]
      by_cases e : cnt (st.lv.take j) st.lv[i].2 = 0
      · rw [decide_eq_true e, cond_true]
        simp only [hv, Option.bind_some, r1, r2, r3, r4, hw]
        by_cases e2 : st.lv[j].2 = st.lv[i].2
        · rw [decide_eq_true e2, if_pos e2, decide_eq_false (by omega)]; rfl
        · rw [decide_eq_false e2, if_neg e2, decide_eq_true (by omega)]; rfl
      · rw [decide_eq_false e, cond_false, hw, decide_eq_false (by omega)]
    · unfold ref08_State_Live.s1
      simp only [decide_eq_false (show ¬ (i : Int) < (i : Int) by omega), cond_false]
  have g1 : loopW (ref08_State_Live.s2 H) (0, 0, ()) (H ++ [.cells (vC v) .exact]) = some ((((rfOf st.lv).length : Int), ()), H ++ [.cells (vC v) .exact]) := by
    refine loop_for' st.lv.length (fun i => (((rfOf (st.lv.take i)).length : Int), (i : Int), ())) (fun _ => H ++ [.cells (vC v) .exact]) rfl rfl (fun i hi => ?_) ?_
    · have h1 := hle i
      unfold ref08_State_Live.s2
      simp only [hv, Option.bind_some, decide_eq_true (show (i : Int) < (v.2.1.len : Int) by rw [h.lvl]; omega), cond_true, inner _ i hi]
      rw [take_snoc hi, rf_snoc, wrap_succ (by omega), wrap_succ (by omega)]
      by_cases e : cnt (st.lv.take i) st.lv[i].2 = 0
      · rw [decide_eq_true e, if_pos e]; rfl
      · rw [decide_eq_false e, if_neg e]; rfl
    · unfold ref08_State_Live.s2
      simp only [hv, Option.bind_some, decide_eq_false (show ¬ (st.lv.length : Int) < (v.2.1.len : Int) by rw [h.lvl]; omega), cond_false, List.take_length]
  unfold ref08_State_Live
  exact (bind_to g1).trans rfl
end
end Ev

namespace Ev
open Go (IntKind)

section
variable {α : Type}
def putS (k : Int) (l : List (Int × α)) : Bool := l.any fun x => decide (k < x.1)
def outS (k : Int) (v : α) (l : List (Int × α)) : List (Int × α) := if putS k l = true then ains l k v else adrop l k
theorem putS_false {k : Int} {l : List (Int × α)} (h : putS k l = false) : ∀ x ∈ l, x.1 ≤ k := fun x hx => by
  unfold putS at h
  rw [List.any_eq_false] at h
  have := h x hx
  simp at this; exact this
theorem putS_putI {k : Int} {l : List (Int × α)} (h : putS k l = true) : putI k l = true := by
  unfold putS at h
  unfold putI
  rw [List.any_eq_true] at h ⊢
  obtain ⟨x, hx, hk⟩ := h
  simp only [decide_eq_true_eq] at hk
  exact ⟨x, hx, by simp; omega⟩
theorem adrop_snoc {l : List (Int × α)} {k : Int} {x : Int × α} (h : Asc (l ++ [x])) : adrop (l ++ [x]) k = adrop l k ++ if x.1 = k then [] else [x] := by
  have hl : Asc l := h.sub (List.sublist_append_left _ _)
  rw [← adrop_filter h, ← adrop_filter hl, List.filter_append, List.filter_cons]
  congr 1
  by_cases e : x.1 = k
  · rw [if_neg (by simp [e]), if_pos e]; rfl
  · rw [if_pos (by simp [e]), if_neg e]; rfl
theorem adrop_lt {l : List (Int × α)} {k : Int} (h : Asc l) (hk : ∀ x ∈ l, x.1 ≤ k) : ∀ x ∈ adrop l k, x.1 < k := fun x hx => by
  rw [← adrop_filter h] at hx
  have := List.mem_filter.1 hx
  have h1 := hk x this.1
  have h2 := this.2
  simp only [Bool.not_eq_true', decide_eq_false_iff_not] at h2
  omega
theorem putI_no {l : List (Int × α)} {k : Int} (hk : ∀ x ∈ l, x.1 < k) : putI k l = false := by
  unfold putI
  rw [List.any_eq_false]
  intro x hx
  have := hk x hx
  simp; omega
theorem outS_snoc {l : List (Int × α)} {k : Int} (v : α) {x : Int × α} (h : Asc (l ++ [x])) :
    putS k (l ++ [x]) = (putS k l || decide (k < x.1)) ∧ outS k v (l ++ [x]) = outS k v l ++ (if putS k l = false ∧ k < x.1 then [(k, v)] else []) ++ (if x.1 = k then [] else [x]) := by
  have h1 : putS k (l ++ [x]) = (putS k l || decide (k < x.1)) := by unfold putS; rw [List.any_append]; simp
  refine ⟨h1, ?_⟩
  have hl : Asc l := h.sub (List.sublist_append_left _ _)
  unfold outS
  rw [h1]
  cases hp : putS k l with
  | true => rw [Bool.true_or, if_pos rfl, if_pos rfl, if_neg (fun hh => absurd hh.1 (by decide)), List.append_nil, ains_app v h (putS_putI hp)]
  | false =>
    have hle := putS_false hp
    have nf : ¬ false = true := by decide
    rw [Bool.false_or, if_neg nf]
    by_cases e : k < x.1
    · rw [if_pos (decide_eq_true e), if_pos ⟨rfl, e⟩, if_neg (by omega), ← ains_drop h, adrop_snoc h, if_neg (by omega)]
      have hd := adrop_lt hl hle
      have ha : Asc (adrop l k ++ [x]) := by
        have := h.drop k
        rwa [adrop_snoc h, if_neg (by omega)] at this
      obtain ⟨u1, u2⟩ := outI_snoc (k := k) v ha
      have h2 := putI_no hd
      have h3 : k ≤ x.1 := by omega
      unfold outI at u2
      rw [u1, h2, Bool.false_or, if_pos (decide_eq_true h3), if_neg nf, if_pos ⟨rfl, h3⟩, if_neg (by omega)] at u2
      exact u2
    · rw [decide_eq_false e, if_neg nf, if_neg (fun hh => e hh.2), List.append_nil, adrop_snoc h]
theorem outS_all {l : List (Int × α)} (h : Asc l) (k : Int) (v : α) : (outS k v l ++ if putS k l = false then [(k, v)] else []) = ains l k v := by
  unfold outS
  cases hp : putS k l with
  | true => rw [if_pos rfl, if_neg (by decide), List.append_nil]
  | false => rw [if_neg (by decide), if_pos rfl, ← ains_drop h, ains_snoc v (adrop_lt h (putS_false hp))]
theorem outS_len {l : List (Int × α)} (h : Asc l) (k : Int) (v : α) : (outS k v l).length ≤ l.length + 1 := by
  unfold outS
  split
  · rw [ains_length h]; split <;> omega
  · have := adrop_length (l := l) (k := k); omega
end
theorem pgs_take (lv : List (Int × Int)) (id : Int) {i : Nat} (hi : i < lv.length) : pgs (lv.take (i + 1)) id = pgs (lv.take i) id ++ if lv[i].1 / 1024 = id then [(lv[i].1 % 1024, lv[i].2)] else [] := by
  rw [take_snoc hi]
  unfold pgs
  rw [List.filter_append, List.map_append, List.filter_cons]
  by_cases e : lv[i].1 / 1024 = id
  · rw [if_pos (decide_eq_true e), if_pos e]; rfl
  · rw [if_neg (by simpa using e), if_neg e]; rfl
theorem insAll_snoc (id : Int) (lv P : List (Int × Int)) (x : Int × Int) : insAll id lv (P ++ [x]) = ains (insAll id lv P) (id * 1024 + x.1) x.2 := by unfold insAll; rw [List.foldl_append]; rfl
end Ev

namespace Ev
open Go (IntKind)

section
variable {H G : Heap} {v v' : RfV} {st st' : Sta}
/-- The end of a method: one slice is put into the box of the state, and that is told. -/
theorem wp_fin {b1 b2 j : Nat} {c : C} {cs : List C} (h1 : G[b1]? = some (.cells (vC v) .exact)) (h2 : G[b2]? = some (.cells cs .exact)) (hl : cs.length = 4) (hne : b1 ≠ b2) (hj : j < 4) (hc : (vC v).set j c = vC v') {Q : (RfV × Unit) × Heap → Prop}
    (k : Q ((v', ()), (G.set b1 (.cells (vC v') .exact)).set b2 (.cells (vC v') .exact))) :
    WP ((wr G b1 j [c]).bind fun (H39 : Heap) => Option.bind (α := RfV) (rd H39 (.agg [.sl 3, .sl 3, .sl 1, .sl 2]) b1 0) fun v40 => (wr H39 b2 0 [.sl 3 v40.1, .sl 3 v40.2.1, .sl 1 v40.2.2.1, .sl 2 v40.2.2.2.1]).bind fun (H41 : Heap) =>
        Option.bind (α := RfV) (rd H41 (.agg [.sl 3, .sl 3, .sl 1, .sl 2]) b2 0) fun v42 => some ((v42, ()), H41)) Q := by
  obtain ⟨f1, f2, f3⟩ := fin4 (G := G) (get_lt h1) h2 hl hne v'
  have hw : wr G b1 j [c] = some (G.set b1 (.cells (vC v') .exact)) := by rw [wr1_of h1 (by decide) (by simp [vC]; omega), hc]
  exact wp_to hw (wp_to f1 (wp_to f2 (wp_to f3 (wp_some k))))
theorem rd3_of {cts : List CT} {b : Nat} {x : Tup cts} (h : G[b]? = some (.cells (Tup.mk cts x) .exact)) (hl : (Tup.mk cts x).length = cts.length) : rd G (.agg cts) b 0 = some x :=
  rd_agg_of h (by omega) (by rw [List.drop_zero, ← hl, List.take_length]; exact tup_un_of _ _)
theorem made_step (h : RfAt H v st) {id q : Int} {b : Bool} {H1 : Heap} (hH1 : H1.length = H.length + 1) {t : Heap} (ht : t[0]? = some (.cells (vC v) .exact)) (ht1 : t[1]? = some (.cells [.int .i64 id, .int .i64 q, .bool b] .exact)) {s0 : Sl} (hs0 : ∀ a, s0.p = some a → H.length + 1 < a.1)
    {i : Nat} (hi : i < st.sp.length) {s : Sl} (hE : Em (H ++ t) s0 3 G s (rowsOf ctP ((outS id (q, b) (st.sp.take i)).map rsp))) (hn : s.len = (outS id (q, b) (st.sp.take i)).length) :
    WP (ref08_State_made.s1 H H1 (s, putS id (st.sp.take i), (i : Int), ()) G) fun r => Sum.elim (fun y => ∃ s', y = (s', putS id (st.sp.take (i + 1)), ((i + 1 : Nat) : Int), ()) ∧
      Em (H ++ t) s0 3 r.2 s' (rowsOf ctP ((outS id (q, b) (st.sp.take (i + 1))).map rsp)) ∧ s'.len = (outS id (q, b) (st.sp.take (i + 1))).length) (fun _ => False) r.1 := by
  have see : ∀ {G : Heap} {s : Sl} {cs : List C}, Em (H ++ t) s0 3 G s cs → rdSl 3 G H.length 0 = some v.1 ∧ (∃ b0 o0, Sl.at 3 v.1 (i : Int) = some (b0, o0) ∧ rdI .i64 G b0 o0 = some st.sp[i].1 ∧ rd G (.agg ctP) b0 o0 = some (rsp st.sp[i])) ∧ rd G (.agg ctP) (H.length + 1) 0 = some (id, q, b, ()) ∧ rdI .i64 G (H.length + 1) 0 = some id := fun {G s cs} hE => by
    obtain ⟨hG, hbox⟩ := h.box t ht (fun a ha => by have := hs0 a ha; omega) hE
    have hleaf : G[H.length + 1]? = some (.cells [.int .i64 id, .int .i64 q, .bool b] .exact) := hE.get (by rw [tl_get1]; exact ht1) fun o ho => by have := hs0 _ ho; simp only at this; omega
    have hlm : (st.sp.map rsp).length = st.sp.length := List.length_map _
    have hx : (st.sp.map rsp)[i]'(by omega) = rsp st.sp[i] := List.getElem_map _
    obtain ⟨b0, o0, r1, r2, _⟩ := Row.rd (cts := ctP) (rows := st.sp.map rsp) hG.sp (i := i) (by omega) (by decide)
    obtain ⟨b1, o1, r3, r4⟩ := row_int (cts := ctP) (rows := st.sp.map rsp) hG.sp (i := i) (by omega) (by decide) (j := 0) (n := st.sp[i].1) (by decide) (by rw [hx]; rfl)
    rw [r1] at r3
    cases r3
    rw [hx] at r2
    exact ⟨rdSl_of hbox rfl, ⟨b0, o0, r1, r4, r2⟩, rd3_of (cts := ctP) (x := (id, q, b, ())) hleaf rfl, rdI_of hleaf rfl⟩
  obtain ⟨hv, ⟨b0, o0, r1, r2, r3⟩, l1, l2⟩ := see hE
  have hsee : ∀ {G : Heap} {s : Sl} {cs : List C}, Em (H ++ t) s0 3 G s cs → rdSl 3 G H.length 0 = some v.1 ∧ rdI .i64 G b0 o0 = some st.sp[i].1 ∧ rd G (.agg ctP) b0 o0 = some (rsp st.sp[i]) ∧ rdI .i64 G (H.length + 1) 0 = some id := fun hE' => by
    obtain ⟨q1, ⟨b2, o2, q2, q3, q4⟩, _, q5⟩ := see hE'
    rw [r1] at q2
    cases q2
    exact ⟨q1, q3, q4, q5⟩
  clear see
  obtain ⟨x, hxx⟩ : ∃ x, x = st.sp[i] := ⟨_, rfl⟩
  rw [← hxx] at r2
  simp only [← hxx] at hsee
  have htk := take_snoc hi
  rw [← hxx] at htk
  have hfew := h.w.few
  obtain ⟨u1, u2⟩ := outS_snoc (k := id) (q, b) (l := st.sp.take i) (x := x) (by rw [← htk]; exact h.w.sp.sub (List.take_sublist _ _))
  have hol := outS_len (h.w.sp.sub (List.take_sublist i st.sp)) id (q, b)
  rw [List.length_take] at hol
  rw [htk, u1, u2]
  generalize outS id (q, b) (st.sp.take i) = out at hE hn hol ⊢
  generalize putS id (st.sp.take i) = put at ⊢
  have hw := wrap_succ (show i < 9223372036854775807 by omega)
  unfold ref08_State_made.s1
  refine wp_to hv (wp_t (decide_eq_true (by rw [h.spl]; exact Int.ofNat_lt.2 hi)) ?_)
  refine wp_seq (fun p => p.1.2.1 = (put || decide (id < x.1)) ∧ Em (H ++ t) s0 3 p.2 p.1.1 (rowsOf ctP ((out ++ if put = false ∧ id < x.1 then [(id, q, b)] else []).map rsp)) ∧ p.1.1.len = (out ++ if put = false ∧ id < x.1 then [(id, q, b)] else []).length) ?_ ?_
  · refine wp_seq (fun p => p = ((!put && decide (id < x.1), ()), G)) ?_ ?_
    · refine wp_c (fun e => ?_) (fun e => ?_)
      · rw [hH1]
        refine wp_to hv (wp_to r1 (wp_to r2 (wp_to l2 (wp_some ?_))))
        rw [show (!put) = true from e]; rfl
      · exact wp_some (by rw [show (!put) = false from e]; rfl)
    · rintro _ rfl
      refine wp_if (p := put = false ∧ id < x.1) (by cases put <;> simp) (fun e => ?_) (fun e => ?_)
      · rw [hH1]
        refine wp_to l1 ?_
        refine wp_app hE rfl (by decide) (by omega) fun s' G' hE' hn' => wp_some ⟨?_, ?_, ?_⟩
        · rw [e.1, decide_eq_true e.2]; rfl
        · rw [if_pos e, List.map_append, rowsOf_append']; exact hE'
        · rw [if_pos e, List.length_append, ← hn]; exact hn'
      · refine wp_some ⟨?_, ?_, ?_⟩
        · show put = _
          cases put with
          | true => rfl
          | false => rw [decide_eq_false (fun hh => e ⟨rfl, hh⟩)]; rfl
        · rw [if_neg e, List.append_nil]; exact hE
        · rw [if_neg e, List.append_nil]; exact hn
  · rintro ⟨⟨s1, put1, ⟨⟩⟩, G1⟩ ⟨rfl, hE1, hn1⟩
    have hE1 : Em (H ++ t) s0 3 G1 s1 (rowsOf ctP ((out ++ if put = false ∧ id < x.1 then [(id, q, b)] else []).map rsp)) := hE1
    have hn1 : s1.len = (out ++ if put = false ∧ id < x.1 then [(id, q, b)] else []).length := hn1
    obtain ⟨q1, q2, q3, q4⟩ := hsee hE1
    have hl1 : s1.len ≤ out.length + 1 := by rw [hn1, List.length_append]; split <;> simp
    rw [hH1]
    refine wp_to q1 (wp_to r1 (wp_to q2 (wp_to q4 ?_)))
    refine wp_if (p := ¬ x.1 = id) (by simp) (fun e => ?_) (fun e => ?_)
    · refine wp_to q1 (wp_to r1 (wp_to q3 ?_))
      refine wp_app hE1 rfl (by decide) (by omega) fun s' G' hE' hn' => wp_some ⟨s', ?_, ?_, ?_⟩
      · simp only [hw]
      · rw [if_neg e, List.map_append, rowsOf_append']; exact hE'
      · rw [if_neg e, List.length_append, ← hn1]; exact hn'
    · have e' : x.1 = id := by simpa using e
      refine wp_some ⟨s1, ?_, ?_, ?_⟩
      · simp only [hw]
      · rw [if_pos e', List.append_nil]; exact hE1
      · rw [if_pos e', List.append_nil]; exact hn1
theorem SaW.spi (w : SaW st) {id : Int} (hid : 1 ≤ id ∧ id ≤ 15) {q : Int} (hq : q ≤ 1024) (b : Bool) : SaW ⟨ains st.sp id (q, b), st.lv, st.bd, st.wn⟩ :=
  ⟨w.sp.ins _ _, w.lv, w.bd, w.wn, fun y hy => by
    show (afind (ains st.sp id (q, b)) (y.1 / 1024)).isSome = true
    rw [afind_ins w.sp]
    split
    · rfl
    · exact w.own y hy,
   fun y hy => (ains_mem hy).elim (fun e => by rw [e]; exact ⟨hid.1, hid.2, hq⟩) (w.ids y), w.bds, w.wns⟩
theorem rf_made (h : RfAt H v st) {id q : Int} (b : Bool) (hid : 1 ≤ id ∧ id ≤ 15) (hq : q ≤ 1024) : WP (ref08_State_made v (id, q, b, ()) H) fun r => RRes H v r.2 r.1.1 ⟨ains st.sp id (q, b), st.lv, st.bd, st.wn⟩ := by
  have hfew := h.w.few
  generalize ht : [Blk.cells [.sl 3 v.1, .sl 3 v.2.1, .sl 1 v.2.2.1, .sl 2 v.2.2.2.1] .exact, .cells [.int .i64 id, .int .i64 q, .bool b] .exact, .cells [.sl 3 Sl.nil, .sl 3 Sl.nil, .sl 1 Sl.nil, .sl 2 Sl.nil] .exact, .cells [] .exact] = t
  have ht0 : t[0]? = some (.cells (vC v) .exact) := by rw [← ht]; rfl
  have ht1 : t[1]? = some (.cells [.int .i64 id, .int .i64 q, .bool b] .exact) := by rw [← ht]; rfl
  have ht2 : t[2]? = some (.cells [.sl 3 Sl.nil, .sl 3 Sl.nil, .sl 1 Sl.nil, .sl 2 Sl.nil] .exact) := by rw [← ht]; rfl
  have ht3 : t[3]? = some (.cells [] .exact) := by rw [← ht]; rfl
  have htl : t.length = 4 := by rw [← ht]; rfl
  have hs0 : ∀ a, (⟨some (H.length + 3, 0), 0, 0⟩ : Sl).p = some a → H.length + 2 < a.1 := fun a ha => by cases ha; simp only; omega
  have h0 : Em (H ++ t) ⟨some (H.length + 3, 0), 0, 0⟩ 3 (H ++ t) ⟨some (H.length + 3, 0), 0, 0⟩ [] := Em.start ⟨rfl, rfl, fun hh => (by cases hh), fun a ha => by cases ha; exact ⟨rfl, .inr (by rw [tl_get1]; exact ht3)⟩⟩
  have done : ∀ sF GF, Em (H ++ t) ⟨some (H.length + 3, 0), 0, 0⟩ 3 GF sF (rowsOf ctP ((ains st.sp id (q, b)).map rsp)) → sF.len = (ains st.sp id (q, b)).length →
      WP ((wr GF H.length 0 [.sl 3 sF]).bind fun (H39 : Heap) => Option.bind (α := RfV) (rd H39 (.agg [.sl 3, .sl 3, .sl 1, .sl 2]) H.length 0) fun v40 => (wr H39 (H.length + 2) 0 [.sl 3 v40.1, .sl 3 v40.2.1, .sl 1 v40.2.2.1, .sl 2 v40.2.2.2.1]).bind fun (H41 : Heap) =>
        Option.bind (α := RfV) (rd H41 (.agg [.sl 3, .sl 3, .sl 1, .sl 2]) (H.length + 2) 0) fun v42 => some ((v42, ()), H41)) fun r => RRes H v r.2 r.1.1 ⟨ains st.sp id (q, b), st.lv, st.bd, st.wn⟩ := fun sF GF hE hl => by
    obtain ⟨hG, hbox⟩ := h.box t ht0 (fun a ha => by have := hs0 a ha; omega) hE
    have hres : GF[H.length + 2]? = some (.cells [.sl 3 Sl.nil, .sl 3 Sl.nil, .sl 1 Sl.nil, .sl 2 Sl.nil] .exact) := hE.get (by rw [tl_get1]; exact ht2) fun o ho => by have := hs0 _ ho; simp only at this; omega
    refine wp_fin (v' := (sF, v.2.1, v.2.2.1, v.2.2.2.1, ())) hbox hres rfl (by omega) (by decide) rfl ?_
    refine rf_done (v' := (sF, v.2.1, v.2.2.1, v.2.2.2.1, ())) h (by omega) (by omega) hs0 hE ⟨h.w.spi hid hq b, Row.grown hE.g, hG.lv, hG.bd, hG.wn, hl, hG.lvl, hG.bdl, hG.wnl⟩ (fun b hb => ?_) _ _
    rcases hb with hb | hb | hb | hb
    · exact .inr hb
    · exact .inl (.inr (.inl hb))
    · exact .inl (.inr (.inr (.inl hb)))
    · exact .inl (.inr (.inr (.inr hb)))
  have hall := outS_all h.w.sp id (q, b)
  unfold ref08_State_made
  simp only [List.append_assoc, List.cons_append, List.nil_append, List.length_append, List.length_cons, List.length_nil, Nat.zero_add]
  rw [ht]
  refine wp_seq _ (wp_rise st.sp.length (fun i y G => ∃ s, y = (s, putS id (st.sp.take i), (i : Int), ()) ∧ Em (H ++ t) ⟨some (H.length + 3, 0), 0, 0⟩ 3 G s (rowsOf ctP ((outS id (q, b) (st.sp.take i)).map rsp)) ∧ s.len = (outS id (q, b) (st.sp.take i)).length)
    (fun x G => ∃ s, x = (s, putS id st.sp, ()) ∧ Em (H ++ t) ⟨some (H.length + 3, 0), 0, 0⟩ 3 G s (rowsOf ctP ((outS id (q, b) st.sp).map rsp)) ∧ s.len = (outS id (q, b) st.sp).length) ?_ ?_ ?_) ?_
  · rintro i y G hi ⟨s, rfl, hE, hn⟩
    exact wp_mono (made_step h (by simp) ht0 ht1 (fun a ha => by have := hs0 a ha; omega) hi hE hn) fun r hr => by
      obtain ⟨r, G'⟩ := r
      cases r with
      | inl y => exact hr
      | inr x => exact hr.elim
  · rintro y G ⟨s, rfl, hE, hn⟩
    rw [List.take_length] at hE hn ⊢
    obtain ⟨_, hbox⟩ := h.box t ht0 (fun a ha => by have := hs0 a ha; omega) hE
    have hv : rdSl 3 G H.length 0 = some v.1 := rdSl_of hbox rfl
    unfold ref08_State_made.s1
    exact wp_to hv (wp_f (decide_eq_false (by rw [h.spl]; exact Int.lt_irrefl _)) (wp_some ⟨s, rfl, hE, hn⟩))
  · exact ⟨_, rfl, h0, rfl⟩
  · rintro ⟨⟨s, pt, ⟨⟩⟩, G⟩ ⟨s', hs, hE, hn⟩
    cases hs
    refine wp_c (fun e => ?_) (fun e => ?_)
    · have e : putS id st.sp = false := by simpa using e
      rw [if_pos e] at hall
      have hleaf : G[H.length + 1]? = some (.cells [.int .i64 id, .int .i64 q, .bool b] .exact) := hE.get (by rw [tl_get1]; exact ht1) fun o ho => by have := hs0 _ ho; simp only at this; omega
      have hol := outS_len h.w.sp id (q, b)
      have l2 : rd G (.agg ctP) (H.length + 1) 0 = some (id, q, b, ()) := rd3_of (cts := ctP) (x := (id, q, b, ())) hleaf rfl
      refine wp_to l2 ?_
      refine wp_app hE rfl (by decide) (by omega) fun s' G' hE' hn' => done s' G' ?_ ?_
      · rw [← hall, List.map_append, rowsOf_append']; exact hE'
      · rw [← hall, List.length_append, ← hn]; exact hn'
    · have e : ¬ putS id st.sp = false := by simpa using e
      rw [if_neg e, List.append_nil] at hall
      rw [hall] at hE hn
      exact done s G hE hn
end
end Ev

namespace Ev
open Go (IntKind)

theorem intC_append (l l' : List Int) : intC (l ++ l') = intC l ++ intC l' := by simp [intC]
theorem SaW.fewb {st : Sta} (w : SaW st) : st.bd.length ≤ 32 := asc_bound (a := 0) w.bd fun x hx => by have := w.bds x hx; omega
theorem SaW.feww {st : Sta} (w : SaW st) : st.wn.length ≤ 32 := asc_bound (a := 0) w.wn fun x hx => by have := w.wns x hx; omega
section
variable {H G : Heap} {v v' : RfV} {st st' : Sta}
theorem bad_step (h : RfAt H v st) {k : Int} {t : Heap} (ht : t[0]? = some (.cells (vC v) .exact)) {s0 : Sl} (hs0 : ∀ a, s0.p = some a → H.length < a.1)
    {i : Nat} (hi : i < st.bd.length) {s : Sl} (hE : Em (H ++ t) s0 1 G s (intC ((outI k () (st.bd.take i)).map Prod.fst))) (hn : s.len = (outI k () (st.bd.take i)).length) :
    WP (ref08_State_bad.s1 k H (s, putI k (st.bd.take i), (i : Int), ()) G) fun r => Sum.elim (fun y => ∃ s', y = (s', putI k (st.bd.take (i + 1)), ((i + 1 : Nat) : Int), ()) ∧
      Em (H ++ t) s0 1 r.2 s' (intC ((outI k () (st.bd.take (i + 1))).map Prod.fst)) ∧ s'.len = (outI k () (st.bd.take (i + 1))).length) (fun _ => False) r.1 := by
  have hll : (st.bd.map Prod.fst).length = st.bd.length := List.length_map _
  have hx : (st.bd.map Prod.fst)[i]'(by omega) = st.bd[i].1 := List.getElem_map _
  have see : ∀ {G : Heap} {s : Sl} {cs : List C}, Em (H ++ t) s0 1 G s cs → rdSl 1 G H.length 2 = some v.2.2.1 ∧ (∃ b0 o0, Sl.at 1 v.2.2.1 (i : Int) = some (b0, o0) ∧ rdI .i64 G b0 o0 = some st.bd[i].1) := fun {G s cs} hE => by
    obtain ⟨hG, hbox⟩ := h.box t ht hs0 hE
    obtain ⟨b0, o0, _, r1, r2⟩ := hG.bd.int (i := i) (by omega)
    rw [hx] at r2
    exact ⟨rdSl_of hbox rfl, b0, o0 + i, r1, r2⟩
  obtain ⟨hv, b0, o0, r1, r2⟩ := see hE
  have hsee : ∀ {G : Heap} {s : Sl} {cs : List C}, Em (H ++ t) s0 1 G s cs → rdSl 1 G H.length 2 = some v.2.2.1 ∧ rdI .i64 G b0 o0 = some st.bd[i].1 := fun hE' => by
    obtain ⟨q1, b2, o2, q2, q3⟩ := see hE'
    rw [r1] at q2
    cases q2
    exact ⟨q1, q3⟩
  clear see
  obtain ⟨x, hxx⟩ : ∃ x, x = st.bd[i] := ⟨_, rfl⟩
  rw [← hxx] at r2
  simp only [← hxx] at hsee
  have htk := take_snoc hi
  rw [← hxx] at htk
  have hfew := h.w.fewb
  obtain ⟨u1, u2⟩ := outI_snoc (k := k) () (l := st.bd.take i) (x := x) (by rw [← htk]; exact h.w.bd.sub (List.take_sublist _ _))
  have hol := outI_len (h.w.bd.sub (List.take_sublist i st.bd)) k ()
  rw [List.length_take] at hol
  rw [htk, u1, u2]
  generalize outI k () (st.bd.take i) = out at hE hn hol ⊢
  generalize putI k (st.bd.take i) = put at ⊢
  have hw := wrap_succ (show i < 9223372036854775807 by omega)
  unfold ref08_State_bad.s1
  refine wp_to hv (wp_t (decide_eq_true (by rw [h.bdl]; exact Int.ofNat_lt.2 hi)) ?_)
  refine wp_seq (fun p => p.1.2.1 = (put || decide (k ≤ x.1)) ∧ Em (H ++ t) s0 1 p.2 p.1.1 (intC ((out ++ if put = false ∧ k ≤ x.1 then [(k, ())] else []).map Prod.fst)) ∧ p.1.1.len = (out ++ if put = false ∧ k ≤ x.1 then [(k, ())] else []).length) ?_ ?_
  · refine wp_seq (fun p => p = ((!put && decide (k ≤ x.1), ()), G)) ?_ ?_
    · refine wp_c (fun e => ?_) (fun e => ?_)
      · refine wp_to hv (wp_to r1 (wp_to r2 (wp_some ?_)))
        rw [show (!put) = true from e]; rfl
      · exact wp_some (by rw [show (!put) = false from e]; rfl)
    · rintro _ rfl
      refine wp_if (p := put = false ∧ k ≤ x.1) (by cases put <;> simp) (fun e => ?_) (fun e => ?_)
      · refine wp_app hE rfl (by decide) (by omega) fun s' G' hE' hn' => wp_some ⟨?_, ?_, ?_⟩
        · rw [e.1, decide_eq_true e.2]; rfl
        · rw [if_pos e, List.map_append, intC_append]; exact hE'
        · rw [if_pos e, List.length_append, ← hn]; exact hn'
      · refine wp_some ⟨?_, ?_, ?_⟩
        · show put = _
          cases put with
          | true => rfl
          | false => rw [decide_eq_false (fun hh => e ⟨rfl, hh⟩)]; rfl
        · rw [if_neg e, List.append_nil]; exact hE
        · rw [if_neg e, List.append_nil]; exact hn
  · rintro ⟨⟨s1, put1, ⟨⟩⟩, G1⟩ ⟨rfl, hE1, hn1⟩
    have hE1 : Em (H ++ t) s0 1 G1 s1 (intC ((out ++ if put = false ∧ k ≤ x.1 then [(k, ())] else []).map Prod.fst)) := hE1
    have hn1 : s1.len = (out ++ if put = false ∧ k ≤ x.1 then [(k, ())] else []).length := hn1
    obtain ⟨q1, q2⟩ := hsee hE1
    have hl1 : s1.len ≤ out.length + 1 := by rw [hn1, List.length_append]; split <;> simp
    refine wp_to q1 (wp_to r1 (wp_to q2 ?_))
    refine wp_if (p := ¬ x.1 = k) (by simp) (fun e => ?_) (fun e => ?_)
    · refine wp_to q1 (wp_to r1 (wp_to q2 ?_))
      refine wp_app hE1 rfl (by decide) (by omega) fun s' G' hE' hn' => wp_some ⟨s', ?_, ?_, ?_⟩
      · simp only [hw]
      · rw [if_neg e, List.map_append, intC_append]; exact hE'
      · rw [if_neg e, List.length_append, ← hn1]; exact hn'
    · have e' : x.1 = k := by simpa using e
      refine wp_some ⟨s1, ?_, ?_, ?_⟩
      · simp only [hw]
      · rw [if_pos e', List.append_nil]; exact hE1
      · rw [if_pos e', List.append_nil]; exact hn1
theorem rf_bad (h : RfAt H v st) {k : Int} (hk : 0 ≤ k ∧ k ≤ 31) : WP (ref08_State_bad v k H) fun r => RRes H v r.2 r.1.1 ⟨st.sp, st.lv, ains st.bd k (), st.wn⟩ := by
  have hfew := h.w.fewb
  generalize ht : [Blk.cells [.sl 3 v.1, .sl 3 v.2.1, .sl 1 v.2.2.1, .sl 2 v.2.2.2.1] .exact, .cells [.sl 3 Sl.nil, .sl 3 Sl.nil, .sl 1 Sl.nil, .sl 2 Sl.nil] .exact, .cells [] .exact] = t
  have ht0 : t[0]? = some (.cells (vC v) .exact) := by rw [← ht]; rfl
  have ht2 : t[1]? = some (.cells [.sl 3 Sl.nil, .sl 3 Sl.nil, .sl 1 Sl.nil, .sl 2 Sl.nil] .exact) := by rw [← ht]; rfl
  have ht3 : t[2]? = some (.cells [] .exact) := by rw [← ht]; rfl
  have htl : t.length = 3 := by rw [← ht]; rfl
  have hs0 : ∀ a, (⟨some (H.length + 2, 0), 0, 0⟩ : Sl).p = some a → H.length + 1 < a.1 := fun a ha => by cases ha; simp only; omega
  have h0 : Em (H ++ t) ⟨some (H.length + 2, 0), 0, 0⟩ 1 (H ++ t) ⟨some (H.length + 2, 0), 0, 0⟩ [] := Em.start ⟨rfl, rfl, fun hh => (by cases hh), fun a ha => by cases ha; exact ⟨rfl, .inr (by rw [tl_get1]; exact ht3)⟩⟩
  have done : ∀ sF GF, Em (H ++ t) ⟨some (H.length + 2, 0), 0, 0⟩ 1 GF sF (intC ((ains st.bd k ()).map Prod.fst)) → sF.len = (ains st.bd k ()).length →
      WP ((wr GF H.length 2 [.sl 1 sF]).bind fun (H39 : Heap) => Option.bind (α := RfV) (rd H39 (.agg [.sl 3, .sl 3, .sl 1, .sl 2]) H.length 0) fun v40 => (wr H39 (H.length + 1) 0 [.sl 3 v40.1, .sl 3 v40.2.1, .sl 1 v40.2.2.1, .sl 2 v40.2.2.2.1]).bind fun (H41 : Heap) =>
        Option.bind (α := RfV) (rd H41 (.agg [.sl 3, .sl 3, .sl 1, .sl 2]) (H.length + 1) 0) fun v42 => some ((v42, ()), H41)) fun r => RRes H v r.2 r.1.1 ⟨st.sp, st.lv, ains st.bd k (), st.wn⟩ := fun sF GF hE hl => by
    obtain ⟨hG, hbox⟩ := h.box t ht0 (fun a ha => by have := hs0 a ha; omega) hE
    have hres : GF[H.length + 1]? = some (.cells [.sl 3 Sl.nil, .sl 3 Sl.nil, .sl 1 Sl.nil, .sl 2 Sl.nil] .exact) := hE.get (by rw [tl_get1]; exact ht2) fun o ho => by have := hs0 _ ho; simp only at this; omega
    refine wp_fin (v' := (v.1, v.2.1, sF, v.2.2.2.1, ())) hbox hres rfl (by omega) (by decide) rfl ?_
    refine rf_done (v' := (v.1, v.2.1, sF, v.2.2.2.1, ())) h (by omega) (by omega) hs0 hE ⟨h.w.bd' hk, hG.sp, hG.lv, Row.grown hE.g, hG.wn, hG.spl, hG.lvl, hl, hG.wnl⟩ (fun b hb => ?_) _ _
    rcases hb with hb | hb | hb | hb
    · exact .inl (.inl hb)
    · exact .inl (.inr (.inl hb))
    · exact .inr hb
    · exact .inl (.inr (.inr (.inr hb)))
  have hall := outI_all k () st.bd
  unfold ref08_State_bad
  simp only [List.append_assoc, List.cons_append, List.nil_append, List.length_append, List.length_cons, List.length_nil, Nat.zero_add]
  rw [ht]
  refine wp_seq _ (wp_rise st.bd.length (fun i y G => ∃ s, y = (s, putI k (st.bd.take i), (i : Int), ()) ∧ Em (H ++ t) ⟨some (H.length + 2, 0), 0, 0⟩ 1 G s (intC ((outI k () (st.bd.take i)).map Prod.fst)) ∧ s.len = (outI k () (st.bd.take i)).length)
    (fun x G => ∃ s, x = (s, putI k st.bd, ()) ∧ Em (H ++ t) ⟨some (H.length + 2, 0), 0, 0⟩ 1 G s (intC ((outI k () st.bd).map Prod.fst)) ∧ s.len = (outI k () st.bd).length) ?_ ?_ ?_) ?_
  · rintro i y G hi ⟨s, rfl, hE, hn⟩
    exact wp_mono (bad_step h ht0 (fun a ha => by have := hs0 a ha; omega) hi hE hn) fun r hr => by
      obtain ⟨r, G'⟩ := r
      cases r with
      | inl y => exact hr
      | inr x => exact hr.elim
  · rintro y G ⟨s, rfl, hE, hn⟩
    rw [List.take_length] at hE hn ⊢
    obtain ⟨_, hbox⟩ := h.box t ht0 (fun a ha => by have := hs0 a ha; omega) hE
    have hv : rdSl 1 G H.length 2 = some v.2.2.1 := rdSl_of hbox rfl
    unfold ref08_State_bad.s1
    exact wp_to hv (wp_f (decide_eq_false (by rw [h.bdl]; exact Int.lt_irrefl _)) (wp_some ⟨s, rfl, hE, hn⟩))
  · exact ⟨_, rfl, h0, rfl⟩
  · rintro ⟨⟨s, pt, ⟨⟩⟩, G⟩ ⟨s', hs, hE, hn⟩
    cases hs
    refine wp_c (fun e => ?_) (fun e => ?_)
    · have e : putI k st.bd = false := by simpa using e
      rw [if_pos e] at hall
      have hol := outI_len h.w.bd k ()
      refine wp_app hE rfl (by decide) (by omega) fun s' G' hE' hn' => done s' G' ?_ ?_
      · rw [← hall, List.map_append, intC_append]; exact hE'
      · rw [← hall, List.length_append, ← hn]; exact hn'
    · have e : ¬ putI k st.bd = false := by simpa using e
      rw [if_neg e, List.append_nil] at hall
      rw [hall] at hE hn
      exact done s G hE hn
end
end Ev

namespace Ev
open Go (IntKind)

section
variable {H G : Heap} {v v' : RfV} {st st' : Sta}
def WornI (st : Sta) (K : Heap) (s0 : Sl) (k n : Int) (i : Nat) (y : Sl × Bool × Int × Unit) (G : Heap) : Prop :=
  ∃ s, y = (s, putI k (st.wn.take i), (i : Int), ()) ∧ Em K s0 2 G s (rowsOf ctW ((outI k n (st.wn.take i)).map rwn)) ∧ s.len = (outI k n (st.wn.take i)).length ∧ ∀ j (hj : j < st.wn.length), j < i → ¬ (st.wn[j].1 = k ∧ n < st.wn[j].2)
theorem arr0 (b : Nat) : arrAt 1 2 (b, 0) 0 = some (b, 0) := rfl
theorem arr1 (b : Nat) : arrAt 1 2 (b, 0) 1 = some (b, 1) := rfl
theorem worn_step (h : RfAt H v st) {k n : Int} {H1 : Heap} (hH1 : H1.length = H.length + 1) {t : Heap} (ht : t[0]? = some (.cells (vC v) .exact)) (ht1 : t[1]? = some (.cells [.sl 3 Sl.nil, .sl 3 Sl.nil, .sl 1 Sl.nil, .sl 2 Sl.nil] .exact)) {s0 : Sl} (hs0 : ∀ a, s0.p = some a → H.length + 1 < a.1)
    {i : Nat} (hi : i < st.wn.length) {y : Sl × Bool × Int × Unit} (hI : WornI st (H ++ t) s0 k n i y G) :
    WP (ref08_State_worn.s1 k n H H1 y G) fun r => Sum.elim (fun y => WornI st (H ++ t) s0 k n (i + 1) y r.2)
      (fun x => x = .inr () ∧ (st.wn[i].1 = k ∧ n < st.wn[i].2) ∧ RRes H v r.2 v st ∧ r.2[H.length + 1]? = some (.cells (vC v) .exact)) r.1 := by
  obtain ⟨s, rfl, hE, hn, hno⟩ := hI
  have hlm : (st.wn.map rwn).length = st.wn.length := List.length_map _
  have hx : (st.wn.map rwn)[i]'(by omega) = rwn st.wn[i] := List.getElem_map _
  obtain ⟨hG, hbox⟩ := h.box t ht (fun a ha => by have := hs0 a ha; omega) hE
  have hres : G[H.length + 1]? = some (.cells [.sl 3 Sl.nil, .sl 3 Sl.nil, .sl 1 Sl.nil, .sl 2 Sl.nil] .exact) := hE.get (by rw [tl_get1]; exact ht1) fun o ho => by have := hs0 _ ho; simp only at this; omega
  have hv : rdSl 2 G H.length 3 = some v.2.2.2.1 := rdSl_of hbox rfl
  obtain ⟨b0, o0, r1, r2, _⟩ := Row.rd (cts := ctW) (rows := st.wn.map rwn) hG.wn (i := i) (by omega) (by decide)
  rw [hx] at r2
  obtain ⟨x, hxx⟩ : ∃ x, x = st.wn[i] := ⟨_, rfl⟩
  rw [← hxx] at r2 ⊢
  have r2 : rd G (.agg [.int .i64, .int .i64]) b0 o0 = (some (x.1, x.2, ()) : Option (Int × Int × Unit)) := r2
  have htk := take_snoc hi
  rw [← hxx] at htk
  have hfew := h.w.feww
  obtain ⟨u1, u2⟩ := outI_snoc (k := k) n (l := st.wn.take i) (x := x) (by rw [← htk]; exact h.w.wn.sub (List.take_sublist _ _))
  have hol := outI_len (h.w.wn.sub (List.take_sublist i st.wn)) k n
  rw [List.length_take] at hol
  have hE0 := hE.push [.cells [.int .i64 x.1, .int .i64 x.2] .exact]
  have hgl : G.length = (G ++ [Blk.cells [.int .i64 x.1, .int .i64 x.2] .exact]).length - 1 := by simp
  have t0 : (G ++ [Blk.cells [.int .i64 x.1, .int .i64 x.2] .exact])[G.length]? = some (.cells [.int .i64 x.1, .int .i64 x.2] .exact) := by rw [tl_get0]; rfl
  have hw0 : wr (G ++ [Blk.cells [.int .i64 0, .int .i64 0] .exact]) G.length 0 [.int .i64 x.1, .int .i64 x.2] = some (G ++ [Blk.cells [.int .i64 x.1, .int .i64 x.2] .exact]) := by
    rw [wr_t0, wr_c0 _ _ _ _ (by simp)]; rfl
  have hsl : ∀ o, s.p ≠ some (G.length, o) := fun o hp => by have := hE.g.lt hp; simp only at this; omega
  have hw := wrap_succ (show i < 9223372036854775807 by omega)
  unfold ref08_State_worn.s1
  refine wp_to hv (wp_t (decide_eq_true (by rw [h.wnl]; exact Int.ofNat_lt.2 hi)) ?_)
  refine wp_to hv (wp_to r1 (wp_to r2 (wp_to hw0 ?_)))
  by_cases he : x.1 = k ∧ n < x.2
  · have hbox2 : (G ++ [Blk.cells [.int .i64 x.1, .int .i64 x.2] .exact])[H.length]? = some (.cells (vC v) .exact) := by rw [List.getElem?_append_left (get_lt hbox)]; exact hbox
    have hres2 : (G ++ [Blk.cells [.int .i64 x.1, .int .i64 x.2] .exact])[H.length + 1]? = some (.cells [.sl 3 Sl.nil, .sl 3 Sl.nil, .sl 1 Sl.nil, .sl 2 Sl.nil] .exact) := by rw [List.getElem?_append_left (get_lt hres)]; exact hres
    have hr : rd (G ++ [Blk.cells [.int .i64 x.1, .int .i64 x.2] .exact]) (.agg [.sl 3, .sl 3, .sl 1, .sl 2]) H.length 0 = (some v : Option RfV) := rd_agg_of hbox2 (by simp [vC]) rfl
    have hwr : wr (G ++ [Blk.cells [.int .i64 x.1, .int .i64 x.2] .exact]) (H.length + 1) 0 [.sl 3 v.1, .sl 3 v.2.1, .sl 1 v.2.2.1, .sl 2 v.2.2.2.1] = some ((G ++ [Blk.cells [.int .i64 x.1, .int .i64 x.2] .exact]).set (H.length + 1) (.cells (vC v) .exact)) := by
      rw [wr_of hres2 (by decide) (by simp)]; rfl
    refine wp_seq (fun p => p = (.inr (), (G ++ [Blk.cells [.int .i64 x.1, .int .i64 x.2] .exact]).set (H.length + 1) (.cells (vC v) .exact))) ?_ ?_
    · refine wp_to (arr0 _) (wp_to (rdI_of t0 rfl) (wp_t (decide_eq_true he.1) (wp_to (arr1 _) (wp_to (rdI_of t0 rfl) (wp_t (decide_eq_true he.2) (wp_to hr ?_))))))
      rw [hH1]
      exact wp_to hwr (wp_some rfl)
    · rintro _ rfl
      have hkk : Keep (fun b => b = H.length + 1) (G ++ [Blk.cells [.int .i64 x.1, .int .i64 x.2] .exact]) ((G ++ [Blk.cells [.int .i64 x.1, .int .i64 x.2] .exact]).set (H.length + 1) (.cells (vC v) .exact)) := Keep.set _ _ _ rfl
      refine wp_some ⟨rfl, he, ⟨(hG.keep (Keep.app (fun _ => False) G _) fun _ _ hf => hf).keep hkk fun b hb e => ?_, ⟨?_, fun b hb _ => ?_⟩, fun b hb => .inl hb⟩, set_get (get_lt hres2)⟩
      · have := h.lt hb; omega
      · have := hE.k.len; simp only [List.length_set, List.length_append] at this ⊢; omega
      · simp only
        have hk := hE.k.len
        simp only [List.length_append] at hk
        rw [set_get' (by omega), List.getElem?_append_left (by omega), hE.k.same b (by simp only [List.length_append]; omega) fun ⟨o, ho⟩ => by have := hs0 _ ho; simp only at this; omega, List.getElem?_append_left hb]
  · refine wp_seq (fun p => p = (.inl (), G ++ [Blk.cells [.int .i64 x.1, .int .i64 x.2] .exact])) ?_ ?_
    · refine wp_to (arr0 _) (wp_to (rdI_of t0 rfl) ?_)
      refine wp_if (p := x.1 = k) rfl (fun e => ?_) (fun e => wp_some rfl)
      exact wp_to (arr1 _) (wp_to (rdI_of t0 rfl) (wp_f (decide_eq_false fun hh => he ⟨e, hh⟩) (wp_some rfl)))
    · rintro _ rfl
      have hno' : ∀ j (hj : j < st.wn.length), j < i + 1 → ¬ (st.wn[j].1 = k ∧ n < st.wn[j].2) := fun j hj hji => by
        by_cases e2 : j = i
        · subst e2; rw [← hxx]; exact he
        · exact hno j hj (by omega)
      unfold WornI
      rw [htk, u1, u2]
      generalize outI k n (st.wn.take i) = out at hE hn hol hE0 ⊢
      generalize putI k (st.wn.take i) = put at ⊢
      refine wp_seq (fun p => p.1.2.1 = (put || decide (k ≤ x.1)) ∧ Em (H ++ t) s0 2 p.2 p.1.1 (rowsOf ctW ((out ++ if put = false ∧ k ≤ x.1 then [(k, n)] else []).map rwn)) ∧ p.1.1.len = (out ++ if put = false ∧ k ≤ x.1 then [(k, n)] else []).length ∧ p.2[G.length]? = some (.cells [.int .i64 x.1, .int .i64 x.2] .exact)) ?_ ?_
      · refine wp_seq (fun p => p = ((!put && decide (k ≤ x.1), ()), G ++ [Blk.cells [.int .i64 x.1, .int .i64 x.2] .exact])) ?_ ?_
        · refine wp_c (fun e => ?_) (fun e => ?_)
          · refine wp_to (arr0 _) (wp_to (rdI_of t0 rfl) (wp_some ?_))
            rw [show (!put) = true from e]; rfl
          · exact wp_some (by rw [show (!put) = false from e]; rfl)
        · rintro _ rfl
          refine wp_if (p := put = false ∧ k ≤ x.1) (by cases put <;> simp) (fun e => ?_) (fun e => ?_)
          · refine wp_appk hE0 rfl (by decide) (by omega) fun s' G' hE' hn' hk' _ => wp_some ⟨?_, ?_, ?_, hk' _ _ t0 hsl⟩
            · rw [e.1, decide_eq_true e.2]; rfl
            · rw [if_pos e, List.map_append, rowsOf_append']; exact hE'
            · rw [if_pos e, List.length_append, ← hn]; exact hn'
          · refine wp_some ⟨?_, ?_, ?_, t0⟩
            · show put = _
              cases put with
              | true => rfl
              | false => rw [decide_eq_false (fun hh => e ⟨rfl, hh⟩)]; rfl
            · rw [if_neg e, List.append_nil]; exact hE0
            · rw [if_neg e, List.append_nil]; exact hn
      · rintro ⟨⟨s1, put1, ⟨⟩⟩, G1⟩ ⟨rfl, hE1, hn1, t1⟩
        have hE1 : Em (H ++ t) s0 2 G1 s1 (rowsOf ctW ((out ++ if put = false ∧ k ≤ x.1 then [(k, n)] else []).map rwn)) := hE1
        have hn1 : s1.len = (out ++ if put = false ∧ k ≤ x.1 then [(k, n)] else []).length := hn1
        have hl1 : s1.len ≤ out.length + 1 := by rw [hn1, List.length_append]; split <;> simp
        refine wp_to (arr0 _) (wp_to (rdI_of t1 rfl) ?_)
        refine wp_if (p := ¬ x.1 = k) (by simp) (fun e => ?_) (fun e => ?_)
        · refine wp_to (rd3_of (cts := ctW) (x := (x.1, x.2, ())) t1 rfl) ?_
          refine wp_app hE1 rfl (by decide) (by omega) fun s' G' hE' hn' => wp_some ⟨s', ?_, ?_, ?_, hno'⟩
          · simp only [hw]
          · rw [if_neg e, List.map_append, rowsOf_append']; exact hE'
          · rw [if_neg e, List.length_append, ← hn1]; exact hn'
        · have e' : x.1 = k := by simpa using e
          refine wp_some ⟨s1, ?_, ?_, ?_, hno'⟩
          · simp only [hw]
          · rw [if_pos e', List.append_nil]; exact hE1
          · rw [if_pos e', List.append_nil]; exact hn1
theorem rf_worn (h : RfAt H v st) {k n : Int} (hk : 0 ≤ k ∧ k ≤ 31) : WP (ref08_State_worn v k n H) fun r => ∃ wn, ((∀ x ∈ st.wn, ¬ (x.1 = k ∧ n < x.2)) → wn = ains st.wn k n) ∧ ((∃ x ∈ st.wn, x.1 = k ∧ n < x.2) → wn = st.wn) ∧ RRes H v r.2 r.1.1 ⟨st.sp, st.lv, st.bd, wn⟩ := by
  have hfew := h.w.feww
  generalize ht : [Blk.cells [.sl 3 v.1, .sl 3 v.2.1, .sl 1 v.2.2.1, .sl 2 v.2.2.2.1] .exact, .cells [.sl 3 Sl.nil, .sl 3 Sl.nil, .sl 1 Sl.nil, .sl 2 Sl.nil] .exact, .cells [] .exact] = t
  have ht0 : t[0]? = some (.cells (vC v) .exact) := by rw [← ht]; rfl
  have ht2 : t[1]? = some (.cells [.sl 3 Sl.nil, .sl 3 Sl.nil, .sl 1 Sl.nil, .sl 2 Sl.nil] .exact) := by rw [← ht]; rfl
  have ht3 : t[2]? = some (.cells [] .exact) := by rw [← ht]; rfl
  have htl : t.length = 3 := by rw [← ht]; rfl
  have hs0 : ∀ a, (⟨some (H.length + 2, 0), 0, 0⟩ : Sl).p = some a → H.length + 1 < a.1 := fun a ha => by cases ha; simp only; omega
  have h0 : Em (H ++ t) ⟨some (H.length + 2, 0), 0, 0⟩ 2 (H ++ t) ⟨some (H.length + 2, 0), 0, 0⟩ [] := Em.start ⟨rfl, rfl, fun hh => (by cases hh), fun a ha => by cases ha; exact ⟨rfl, .inr (by rw [tl_get1]; exact ht3)⟩⟩
  have done : ∀ sF GF, (∀ x ∈ st.wn, ¬ (x.1 = k ∧ n < x.2)) → Em (H ++ t) ⟨some (H.length + 2, 0), 0, 0⟩ 2 GF sF (rowsOf ctW ((ains st.wn k n).map rwn)) → sF.len = (ains st.wn k n).length →
      WP ((wr GF H.length 3 [.sl 2 sF]).bind fun (H39 : Heap) => Option.bind (α := RfV) (rd H39 (.agg [.sl 3, .sl 3, .sl 1, .sl 2]) H.length 0) fun v40 => (wr H39 (H.length + 1) 0 [.sl 3 v40.1, .sl 3 v40.2.1, .sl 1 v40.2.2.1, .sl 2 v40.2.2.2.1]).bind fun (H41 : Heap) =>
        Option.bind (α := RfV) (rd H41 (.agg [.sl 3, .sl 3, .sl 1, .sl 2]) (H.length + 1) 0) fun v42 => some ((v42, ()), H41)) fun r => ∃ wn, ((∀ x ∈ st.wn, ¬ (x.1 = k ∧ n < x.2)) → wn = ains st.wn k n) ∧ ((∃ x ∈ st.wn, x.1 = k ∧ n < x.2) → wn = st.wn) ∧ RRes H v r.2 r.1.1 ⟨st.sp, st.lv, st.bd, wn⟩ := fun sF GF hno hE hl => by
    obtain ⟨hG, hbox⟩ := h.box t ht0 (fun a ha => by have := hs0 a ha; omega) hE
    have hres : GF[H.length + 1]? = some (.cells [.sl 3 Sl.nil, .sl 3 Sl.nil, .sl 1 Sl.nil, .sl 2 Sl.nil] .exact) := hE.get (by rw [tl_get1]; exact ht2) fun o ho => by have := hs0 _ ho; simp only at this; omega
    refine wp_fin (v' := (v.1, v.2.1, v.2.2.1, sF, ())) hbox hres rfl (by omega) (by decide) rfl ?_
    refine ⟨_, fun _ => rfl, fun ⟨x, hx, hh⟩ => absurd hh (hno x hx), ?_⟩
    refine rf_done (v' := (v.1, v.2.1, v.2.2.1, sF, ())) h (by omega) (by omega) hs0 hE ⟨h.w.wn' hk n, hG.sp, hG.lv, hG.bd, Row.grown hE.g, hG.spl, hG.lvl, hG.bdl, hl⟩ (fun b hb => ?_) _ _
    rcases hb with hb | hb | hb | hb
    · exact .inl (.inl hb)
    · exact .inl (.inr (.inl hb))
    · exact .inl (.inr (.inr (.inl hb)))
    · exact .inr hb
  have hall := outI_all k n st.wn
  unfold ref08_State_worn
  simp only [List.append_assoc, List.cons_append, List.nil_append, List.length_append, List.length_cons, List.length_nil, Nat.zero_add]
  rw [ht]
  refine wp_seq _ (wp_rise st.wn.length (WornI st (H ++ t) ⟨some (H.length + 2, 0), 0, 0⟩ k n)
    (fun x G => (x = .inr () ∧ (∃ x ∈ st.wn, x.1 = k ∧ n < x.2) ∧ RRes H v G v st ∧ G[H.length + 1]? = some (.cells (vC v) .exact)) ∨ ∃ s, x = .inl (s, putI k st.wn, ()) ∧ Em (H ++ t) ⟨some (H.length + 2, 0), 0, 0⟩ 2 G s (rowsOf ctW ((outI k n st.wn).map rwn)) ∧ s.len = (outI k n st.wn).length ∧ (∀ x ∈ st.wn, ¬ (x.1 = k ∧ n < x.2))) ?_ ?_ ?_) ?_
  · intro i y G hi hI
    exact wp_mono (worn_step h (by simp) ht0 ht2 (fun a ha => by have := hs0 a ha; omega) hi hI) fun r hr => by
      obtain ⟨r, G'⟩ := r
      cases r with
      | inl y => exact hr
      | inr x => exact .inl ⟨hr.1, ⟨_, List.getElem_mem hi, hr.2.1⟩, hr.2.2⟩
  · rintro y G ⟨s, rfl, hE, hn, hno⟩
    rw [List.take_length] at hE hn ⊢
    obtain ⟨_, hbox⟩ := h.box t ht0 (fun a ha => by have := hs0 a ha; omega) hE
    have hv : rdSl 2 G H.length 3 = some v.2.2.2.1 := rdSl_of hbox rfl
    unfold ref08_State_worn.s1
    exact wp_to hv (wp_f (decide_eq_false (by rw [h.wnl]; exact Int.lt_irrefl _)) (wp_some (.inr ⟨s, rfl, hE, hn, fun x hx => by obtain ⟨j, hj, rfl⟩ := List.getElem_of_mem hx; exact hno j hj hj⟩)))
  · exact ⟨_, rfl, h0, rfl, fun j _ hj => absurd hj (Nat.not_lt_zero _)⟩
  · rintro ⟨x, G⟩ (⟨rfl, hex, hr, hbx⟩ | ⟨s, rfl, hE, hn, hno⟩)
    · have hrd : rd G (.agg [.sl 3, .sl 3, .sl 1, .sl 2]) (H.length + 1) 0 = (some v : Option RfV) := rd_agg_of hbx (by simp [vC]) rfl
      refine wp_to hrd (wp_some ⟨st.wn, fun hno => ?_, fun _ => rfl, hr⟩)
      obtain ⟨x, hx, hh⟩ := hex
      exact absurd hh (hno x hx)
    · refine wp_c (fun e => ?_) (fun e => ?_)
      · have e : putI k st.wn = false := by simpa using e
        rw [if_pos e] at hall
        have hol := outI_len h.w.wn k n
        refine wp_app hE rfl (by decide) (by omega) fun s' G' hE' hn' => done s' G' hno ?_ ?_
        · rw [← hall, List.map_append, rowsOf_append']; exact hE'
        · rw [← hall, List.length_append, ← hn]; exact hn'
      · have e : ¬ putI k st.wn = false := by simpa using e
        rw [if_neg e, List.append_nil] at hall
        rw [hall] at hE hn
        exact done s G hno hE hn
end
end Ev

namespace Ev
open Go (IntKind)

section
variable {H G : Heap} {v v' : RfV} {st st' : Sta}
theorem SaW.gone (w : SaW st) (id : Int) : SaW ⟨adrop st.sp id, lvOff st.lv id, st.bd, st.wn⟩ :=
  ⟨w.sp.drop _, lvOff_asc w.lv id, w.bd, w.wn, fun y hy => by
    have hm := List.mem_filter.1 hy
    have hne : ¬ y.1 / 1024 = id := by simpa using hm.2
    show (afind (adrop st.sp id) (y.1 / 1024)).isSome = true
    rw [afind_drop w.sp, if_neg hne]
    exact w.own y hm.1, fun y hy => w.ids y ((adrop_sub _ _).subset hy), w.bds, w.wns⟩
theorem rf_trim (h : RfAt H v st) (id : Int) {p : Int} (hp : 0 ≤ p ∧ p < 1024) : WP (ref08_State_without v id p H) fun r => RRes H v r.2 r.1.1 ⟨st.sp, adrop st.lv (id * 1024 + p), st.bd, st.wn⟩ := by
  have hmany := h.w.many
  obtain ⟨s, G, e1, e2, e3, e4, e5⟩ := rf_without h.lv h.lvl (by omega) id p
  rw [stay_drop h.w.lv id hp] at e2 e3
  have hG := h.keep e4 fun _ _ hf => hf
  refine ⟨_, e1, ⟨h.w.less _, hG.sp, e2, hG.bd, hG.wn, hG.spl, e3, hG.bdl, hG.wnl⟩, e4, fun b hb => ?_⟩
  rcases hb with hb | hb | hb | hb
  · exact .inl (.inl hb)
  · obtain ⟨o, ho⟩ := hb
    exact .inr (by have := e5 b o ho; omega)
  · exact .inl (.inr (.inr (.inl hb)))
  · exact .inl (.inr (.inr (.inr hb)))
def offS (id : Int) (x : Int × Int × Bool) : Bool := !decide (x.1 = id)
theorem dropped_step (h : RfAt H v st) {id : Int} {t : Heap} (ht : t[0]? = some (.cells (vC v) .exact)) {s0 : Sl} (hs0 : ∀ a, s0.p = some a → H.length < a.1)
    {i : Nat} (hi : i < st.sp.length) {s : Sl} (hE : Em (H ++ t) s0 3 G s (rowsOf ctP (((st.sp.take i).filter (offS id)).map rsp))) (hn : s.len = ((st.sp.take i).filter (offS id)).length) :
    WP (ref08_State_dropped.s1 id H (s, (i : Int), ()) G) fun r => Sum.elim (fun y => ∃ s', y = (s', ((i + 1 : Nat) : Int), ()) ∧
      Em (H ++ t) s0 3 r.2 s' (rowsOf ctP (((st.sp.take (i + 1)).filter (offS id)).map rsp)) ∧ s'.len = ((st.sp.take (i + 1)).filter (offS id)).length) (fun _ => False) r.1 := by
  obtain ⟨hG, hbox⟩ := h.box t ht hs0 hE
  have hlm : (st.sp.map rsp).length = st.sp.length := List.length_map _
  have hx : (st.sp.map rsp)[i]'(by omega) = rsp st.sp[i] := List.getElem_map _
  have hv : rdSl 3 G H.length 0 = some v.1 := rdSl_of hbox rfl
  obtain ⟨b0, o0, r1, r2, _⟩ := Row.rd (cts := ctP) (rows := st.sp.map rsp) hG.sp (i := i) (by omega) (by decide)
  obtain ⟨b1, o1, r3, r4⟩ := row_int (cts := ctP) (rows := st.sp.map rsp) hG.sp (i := i) (by omega) (by decide) (j := 0) (n := st.sp[i].1) (by decide) (by rw [hx]; rfl)
  rw [r1] at r3
  cases r3
  rw [hx] at r2
  have r4 : rdI .i64 G b0 o0 = some st.sp[i].1 := r4
  have hl := List.length_filter_le (offS id) (st.sp.take i)
  rw [List.length_take] at hl
  have hfew := h.w.few
  have hw := wrap_succ (show i < 9223372036854775807 by omega)
  rw [take_snoc hi, List.filter_append, List.filter_cons]
  unfold ref08_State_dropped.s1
  refine wp_to hv (wp_t (decide_eq_true (by rw [h.spl]; exact Int.ofNat_lt.2 hi)) ?_)
  refine wp_to hv (wp_to r1 (wp_to r4 ?_))
  refine wp_if (p := ¬ st.sp[i].1 = id) (by simp) (fun e => ?_) (fun e => ?_)
  · refine wp_to hv (wp_to r1 (wp_to r2 ?_))
    refine wp_app hE rfl (by decide) (by omega) fun s' G' hE' hn' => wp_some ⟨s', ?_, ?_, ?_⟩
    · simp only [hw]
    · rw [if_pos (by unfold offS; simpa using e), List.map_append, rowsOf_append']; exact hE'
    · rw [if_pos (by unfold offS; simpa using e), List.length_append, ← hn]; exact hn'
  · have e' : ¬ offS id st.sp[i] = true := by unfold offS; simpa using e
    refine wp_some ⟨s, ?_, ?_, ?_⟩
    · simp only [hw]
    · rw [if_neg e', List.filter_nil, List.append_nil]; exact hE
    · rw [if_neg e', List.filter_nil, List.append_nil]; exact hn
theorem rf_dropped (h : RfAt H v st) (id : Int) : WP (ref08_State_dropped v id H) fun r => RRes H v r.2 r.1.1 ⟨adrop st.sp id, lvOff st.lv id, st.bd, st.wn⟩ := by
  have hfew := h.w.few
  have hmany := h.w.many
  generalize ht : [Blk.cells [.sl 3 v.1, .sl 3 v.2.1, .sl 1 v.2.2.1, .sl 2 v.2.2.2.1] .exact, .cells [.sl 3 Sl.nil, .sl 3 Sl.nil, .sl 1 Sl.nil, .sl 2 Sl.nil] .exact, .cells [] .exact] = t
  have ht0 : t[0]? = some (.cells (vC v) .exact) := by rw [← ht]; rfl
  have ht2 : t[1]? = some (.cells [.sl 3 Sl.nil, .sl 3 Sl.nil, .sl 1 Sl.nil, .sl 2 Sl.nil] .exact) := by rw [← ht]; rfl
  have ht3 : t[2]? = some (.cells [] .exact) := by rw [← ht]; rfl
  have htl : t.length = 3 := by rw [← ht]; rfl
  have hs0 : ∀ a, (⟨some (H.length + 2, 0), 0, 0⟩ : Sl).p = some a → H.length + 1 < a.1 := fun a ha => by cases ha; simp only; omega
  have h0 : Em (H ++ t) ⟨some (H.length + 2, 0), 0, 0⟩ 3 (H ++ t) ⟨some (H.length + 2, 0), 0, 0⟩ [] := Em.start ⟨rfl, rfl, fun hh => (by cases hh), fun a ha => by cases ha; exact ⟨rfl, .inr (by rw [tl_get1]; exact ht3)⟩⟩
  unfold ref08_State_dropped
  simp only [List.append_assoc, List.cons_append, List.nil_append, List.length_append, List.length_cons, List.length_nil, Nat.zero_add]
  rw [ht]
  refine wp_seq _ (wp_rise st.sp.length (fun i y G => ∃ s, y = (s, (i : Int), ()) ∧ Em (H ++ t) ⟨some (H.length + 2, 0), 0, 0⟩ 3 G s (rowsOf ctP (((st.sp.take i).filter (offS id)).map rsp)) ∧ s.len = ((st.sp.take i).filter (offS id)).length)
    (fun x G => ∃ s, x = (s, ()) ∧ Em (H ++ t) ⟨some (H.length + 2, 0), 0, 0⟩ 3 G s (rowsOf ctP ((adrop st.sp id).map rsp)) ∧ s.len = (adrop st.sp id).length) ?_ ?_ ?_) ?_
  · rintro i y G hi ⟨s, rfl, hE, hn⟩
    exact wp_mono (dropped_step h ht0 (fun a ha => by have := hs0 a ha; omega) hi hE hn) fun r hr => by
      obtain ⟨r, G'⟩ := r
      cases r with
      | inl y => exact hr
      | inr x => exact hr.elim
  · rintro y G ⟨s, rfl, hE, hn⟩
    rw [List.take_length, show st.sp.filter (offS id) = adrop st.sp id from adrop_filter h.w.sp id] at hE hn
    obtain ⟨_, hbox⟩ := h.box t ht0 (fun a ha => by have := hs0 a ha; omega) hE
    have hv : rdSl 3 G H.length 0 = some v.1 := rdSl_of hbox rfl
    unfold ref08_State_dropped.s1
    exact wp_to hv (wp_f (decide_eq_false (by rw [h.spl]; exact Int.lt_irrefl _)) (wp_some ⟨s, rfl, hE, hn⟩))
  · exact ⟨_, rfl, h0, rfl⟩
  · rintro ⟨⟨s, ⟨⟩⟩, G⟩ ⟨s', hs, hE, hn⟩
    cases hs
    obtain ⟨hG, hbox⟩ := h.box t ht0 (fun a ha => by have := hs0 a ha; omega) hE
    have hres : G[H.length + 1]? = some (.cells [.sl 3 Sl.nil, .sl 3 Sl.nil, .sl 1 Sl.nil, .sl 2 Sl.nil] .exact) := hE.get (by rw [tl_get1]; exact ht2) fun o ho => by have := hs0 _ ho; simp only at this; omega
    have hw : wr G H.length 0 [.sl 3 s] = some (G.set H.length (.cells (vC (s, v.2.1, v.2.2.1, v.2.2.2.1, ())) .exact)) := by rw [wr1_of hbox (by decide) (by simp [vC])]; rfl
    have kf : Keep (fun b => b = H.length) G (G.set H.length (.cells (vC (s, v.2.1, v.2.2.1, v.2.2.2.1, ())) .exact)) := Keep.set _ _ _ rfl
    have hso : ∀ b o, s.p = some (b, o) → H.length + 2 ≤ b := fun b o hp => by
      rcases hE.o _ hp with hh | ⟨o', hh⟩
      · simp only [List.length_append] at hh; omega
      · have hh : some (H.length + 2, 0) = some (b, o') := hh
        cases hh; omega
    have hrow : Row (G.set H.length (.cells (vC (s, v.2.1, v.2.2.1, v.2.2.2.1, ())) .exact)) 3 v.2.1 (rowsOf ctL (st.lv.map rlv)) := hG.lv.keep kf fun b o hp e => by have := h.lv.lt hp; omega
    obtain ⟨sl, G2, w1, w2, w3, w4, w5⟩ := rf_without (v := (s, v.2.1, v.2.2.1, v.2.2.2.1, ())) hrow h.lvl (by omega) id (-1)
    rw [stay_off st.lv id (by decide)] at w2 w3
    have hbox1 : rd (G.set H.length (.cells (vC (s, v.2.1, v.2.2.1, v.2.2.2.1, ())) .exact)) (.agg [.sl 3, .sl 3, .sl 1, .sl 2]) H.length 0 = (some (s, v.2.1, v.2.2.1, v.2.2.2.1, ()) : Option RfV) := rd_agg_of (set_get (get_lt hbox)) (by simp [vC]) rfl
    have hlG : H.length + 3 ≤ G.length := by have := hE.k.len; simp only [List.length_append] at this; omega
    have hres2 : G2[H.length + 1]? = some (.cells [.sl 3 Sl.nil, .sl 3 Sl.nil, .sl 1 Sl.nil, .sl 2 Sl.nil] .exact) := by rw [w4.same _ (by simp only [List.length_set]; omega) fun hf => hf, set_get' (by omega)]; exact hres
    have hwr : wr G2 (H.length + 1) 0 [.sl 3 s, .sl 3 sl, .sl 1 v.2.2.1, .sl 2 v.2.2.2.1] = some (G2.set (H.length + 1) (.cells (vC (s, sl, v.2.2.1, v.2.2.2.1, ())) .exact)) := by
      rw [wr_of hres2 (by decide) (by simp)]; rfl
    have hrd : rd (G2.set (H.length + 1) (.cells (vC (s, sl, v.2.2.1, v.2.2.2.1, ())) .exact)) (.agg [.sl 3, .sl 3, .sl 1, .sl 2]) (H.length + 1) 0 = (some (s, sl, v.2.2.1, v.2.2.2.1, ()) : Option RfV) := rd_agg_of (set_get (get_lt hres2)) (by simp [vC]) rfl
    refine wp_to hw (wp_to hbox1 (wp_to w1 (wp_to hwr (wp_to hrd (wp_some ?_)))))
    have k1 : Keep (fun b => b = H.length ∨ b = H.length + 1) G (G2.set (H.length + 1) (.cells (vC (s, sl, v.2.2.1, v.2.2.2.1, ())) .exact)) :=
      ((kf.mono fun b e => .inl e).trans (w4.mono fun _ hf => hf.elim)).trans (Keep.set _ _ _ (.inr rfl))
    have hok : ∀ b, blkV (s, sl, v.2.2.1, v.2.2.2.1, ()) b → ¬ (b = H.length ∨ b = H.length + 1) ∧ (blkV v b ∨ H.length ≤ b) := fun b hb => by
      rcases hb with ⟨o, hb⟩ | ⟨o, hb⟩ | hb | hb
      · have := hso b o hb; exact ⟨by omega, .inr (by omega)⟩
      · have := w5 b o hb; simp only [List.length_set] at this; exact ⟨by omega, .inr (by omega)⟩
      · have hb' : blkV v b := .inr (.inr (.inl hb))
        have := h.lt hb'; exact ⟨by omega, .inl hb'⟩
      · have hb' : blkV v b := .inr (.inr (.inr hb))
        have := h.lt hb'; exact ⟨by omega, .inl hb'⟩
    have kl : Keep (fun b => b = H.length + 1) G2 (G2.set (H.length + 1) (.cells (vC (s, sl, v.2.2.1, v.2.2.2.1, ())) .exact)) := Keep.set _ _ _ rfl
    have hF := hG.keep k1 fun b hb e => by have := h.lt hb; omega
    refine ⟨⟨h.w.gone id, (Row.grown hE.g).keep k1 fun b o hp => (hok b (.inl ⟨o, hp⟩)).1, w2.keep kl fun b o hp e => (hok b (.inr (.inl ⟨o, hp⟩))).1 (.inr e), hF.bd, hF.wn, hn, w3, h.bdl, h.wnl⟩, ⟨?_, fun b hb _ => ?_⟩, fun b hb => (hok b hb).2⟩
    · exact Nat.le_trans (by omega) k1.len
    · refine (k1.same b (by omega) (by omega)).trans ?_
      rw [hE.k.same b (by simp only [List.length_append]; omega) fun ⟨o, ho⟩ => by have := hs0 _ ho; simp only at this; omega, List.getElem?_append_left hb]
end
end Ev

namespace Ev
open Go (IntKind)

def nilV : List C := [.sl 3 Sl.nil, .sl 3 Sl.nil, .sl 1 Sl.nil, .sl 2 Sl.nil]
structure DoM (H : Heap) (v : RfV) (st : Sta) (x : RecT) (G : Heap) : Prop where
  s : RfAt G v st
  k : Keep (fun _ => False) H G
  b0 : G[H.length]? = some (.cells (vC v) .exact)
  b1 : G[H.length + 1]? = some (recB x)
  b2 : G[H.length + 2]? = some (.cells nilV .exact)
  o : ∀ b, blkV v b → b < H.length
def DoQ (H : Heap) (v : RfV) (st : Sta) (x : RecT) (r : (RfV × Int × Unit) × Heap) : Prop := r.1.2.1 = (st.applyS x).1 ∧ RRes H v r.2 r.1.1 (st.applyS x).2
section
variable {H G : Heap} {v v' : RfV} {st st' : Sta} {x : RecT}
theorem DoM.keep (m : DoM H v st x G) {G' : Heap} (k : Keep (fun _ => False) G G') : DoM H v st x G' :=
  ⟨m.s.keep k fun _ _ hf => hf, m.k.trans k, k.get m.b0 fun hf => hf, k.get m.b1 fun hf => hf, k.get m.b2 fun hf => hf, m.o⟩
theorem DoM.rv (m : DoM H v st x G) : rd G (.agg [.sl 3, .sl 3, .sl 1, .sl 2]) H.length 0 = (some v : Option RfV) := rd_agg_of m.b0 (by simp [vC]) rfl
theorem DoM.x0 (m : DoM H v st x G) : rdI .i64 G (H.length + 1) 0 = some x.1 := rdI_of m.b1 rfl
theorem DoM.x1 (m : DoM H v st x G) : rdI .i64 G (H.length + 1) 1 = some x.2.1 := rdI_of m.b1 rfl
theorem DoM.x2 (m : DoM H v st x G) : rdI .i64 G (H.length + 1) 2 = some x.2.2.1 := rdI_of m.b1 rfl
theorem DoM.x3 (m : DoM H v st x G) : rdI .i64 G (H.length + 1) 3 = some x.2.2.2.1 := rdI_of m.b1 rfl
theorem DoM.x4 (m : DoM H v st x G) : rdI .i64 G (H.length + 1) 4 = some x.2.2.2.2.1 := rdI_of m.b1 rfl
theorem DoM.x5 (m : DoM H v st x G) : rdI .i64 G (H.length + 1) 5 = some x.2.2.2.2.2.1 := rdI_of m.b1 rfl
theorem DoM.sp (m : DoM H v st x G) : rdSl 3 G H.length 0 = some v.1 := rdSl_of m.b0 rfl
theorem DoM.lv (m : DoM H v st x G) : rdSl 3 G H.length 1 = some v.2.1 := rdSl_of m.b0 rfl
theorem RRes.refl (h : RfAt H v st) : RRes H v H v st := ⟨h, Keep.refl _ _, fun b hb => .inl hb⟩
/-- A state is told, with an error's number. -/
theorem ret_state {v0 : RfV} {B : Nat} (hs : RfAt G v' st') (hk : Keep (fun _ => False) H G) (hB : H.length ≤ B) {cs : List C} (hb : G[B]? = some (.cells cs .exact)) (hl : cs.length = 4) (hn : ∀ b, blkV v' b → (blkV v0 b ∨ H.length ≤ b) ∧ b ≠ B) {e : Int}
    {Q : (RfV × Int × Unit) × Heap → Prop} (hQ : ∀ G', RRes H v0 G' v' st' → Q ((v', e, ()), G')) :
    WP ((wr G B 0 [.sl 3 v'.1, .sl 3 v'.2.1, .sl 1 v'.2.2.1, .sl 2 v'.2.2.2.1]).bind fun (H57 : Heap) => Option.bind (α := RfV) (rd H57 (.agg [.sl 3, .sl 3, .sl 1, .sl 2]) B 0) fun v58 => some ((v58, e, ()), H57)) Q := by
  have hwr : wr G B 0 [.sl 3 v'.1, .sl 3 v'.2.1, .sl 1 v'.2.2.1, .sl 2 v'.2.2.2.1] = some (G.set B (.cells (vC v') .exact)) := by
    rw [wr_of hb (by decide) (by rw [hl]; exact Nat.le_refl 4)]
    obtain ⟨c0, c1, c2, c3, rfl⟩ : ∃ c0 c1 c2 c3, cs = [c0, c1, c2, c3] := by
      match cs, hl with
      | [c0, c1, c2, c3], _ => exact ⟨c0, c1, c2, c3, rfl⟩
    rfl
  have hrd : rd (G.set B (.cells (vC v') .exact)) (.agg [.sl 3, .sl 3, .sl 1, .sl 2]) B 0 = (some v' : Option RfV) := rd_agg_of (set_get (get_lt hb)) (by simp [vC]) rfl
  have kk : Keep (fun b => b = B) G (G.set B (.cells (vC v') .exact)) := Keep.set _ _ _ rfl
  refine wp_to hwr (wp_to hrd (wp_some (hQ _ ⟨hs.keep kk fun b hbb e => (hn b hbb).2 e, ⟨by have := hk.len; simp only [List.length_set]; omega, fun b hbb _ => ?_⟩, fun b hbb => (hn b hbb).1⟩)))
  rw [set_get' (by omega)]
  exact hk.same b hbb fun hf => hf
theorem DoM.ret (m : DoM H v st x G) {G' : Heap} (r : RRes G v G' v' st') {e : Int} (hx : st.applyS x = (e, st')) :
    WP ((wr G' (H.length + 2) 0 [.sl 3 v'.1, .sl 3 v'.2.1, .sl 1 v'.2.2.1, .sl 2 v'.2.2.2.1]).bind fun (H57 : Heap) => Option.bind (α := RfV) (rd H57 (.agg [.sl 3, .sl 3, .sl 1, .sl 2]) (H.length + 2) 0) fun v58 => some ((v58, e, ()), H57)) (DoQ H v st x) := by
  refine ret_state r.s (m.k.trans r.k) (by omega) (r.k.get m.b2 fun hf => hf) rfl (v0 := v) (fun b hb => ?_) fun G' hr => ?_
  · rcases r.n b hb with hh | hh
    · exact ⟨.inl hh, by have := m.o b hh; omega⟩
    · have := get_lt m.b2
      have := m.k.len
      exact ⟨.inr (by omega), by omega⟩
  · unfold DoQ
    rw [hx]
    exact ⟨rfl, hr⟩
theorem DoM.err (m : DoM H v st x G) {e : Int} (hx : st.applyS x = (e, st)) :
    WP (Option.bind (α := RfV) (rd G (.agg [.sl 3, .sl 3, .sl 1, .sl 2]) H.length 0) fun v15 => (wr G (H.length + 2) 0 [.sl 3 v15.1, .sl 3 v15.2.1, .sl 1 v15.2.2.1, .sl 2 v15.2.2.2.1]).bind fun (H57 : Heap) => Option.bind (α := RfV) (rd H57 (.agg [.sl 3, .sl 3, .sl 1, .sl 2]) (H.length + 2) 0) fun v58 => some ((v58, e, ()), H57)) (DoQ H v st x) :=
  wp_to m.rv (m.ret (RRes.refl m.s) hx)
theorem rf_begin (h : RfAt H v st) (x : RecT) : DoM H v st x (H ++ [.cells [.sl 3 v.1, .sl 3 v.2.1, .sl 1 v.2.2.1, .sl 2 v.2.2.2.1] .exact, .cells [.int .i64 x.1, .int .i64 x.2.1, .int .i64 x.2.2.1, .int .i64 x.2.2.2.1, .int .i64 x.2.2.2.2.1, .int .i64 x.2.2.2.2.2.1] .exact, .cells [.sl 3 Sl.nil, .sl 3 Sl.nil, .sl 1 Sl.nil, .sl 2 Sl.nil] .exact]) :=
  ⟨h.keep (Keep.app (fun _ => False) H _) fun _ _ hf => hf, Keep.app _ _ _, by rw [tl_get0]; rfl, by rw [tl_get1]; rfl, by rw [tl_get1]; rfl, fun b hb => h.lt hb⟩
theorem wp_tmp {β : Type} {a b c : Int} {K : Heap → Option β} {Q : β → Prop} (k : WP (K (G ++ [.cells [.int .i64 a, .int .i64 b, .int .i64 c] .exact])) Q) :
    WP ((wr (G ++ [.cells [.int .i64 0, .int .i64 0, .int .i64 0] .exact]) G.length 0 [.int .i64 a, .int .i64 b, .int .i64 c]).bind K) Q :=
  wp_to (by rw [wr_t0, wr_c0 _ _ _ _ (by simp)]; rfl) k
theorem wp_tmpB {β : Type} {a b : Int} {c : Bool} {K : Heap → Option β} {Q : β → Prop} (k : WP (K (G ++ [.cells [.int .i64 a, .int .i64 b, .bool c] .exact])) Q) :
    WP ((wr (G ++ [.cells [.int .i64 0, .int .i64 0, .bool false] .exact]) G.length 0 [.int .i64 a, .int .i64 b, .bool c]).bind K) Q :=
  wp_to (by rw [wr_t0, wr_c0 _ _ _ _ (by simp)]; rfl) k
theorem mv_snoc (f t : Int) (l : List (Int × Int)) (y : Int × Int) : mv f t (l ++ [y]) = mv f t l ++ [if y.2 = f then (y.1, t) else y] := by unfold mv; rw [List.map_append]; rfl
theorem mv_len (f t : Int) (l : List (Int × Int)) : (mv f t l).length = l.length := List.length_map _
theorem SaW.moved (w : SaW st) (f t : Int) : SaW ⟨st.sp, mv f t st.lv, st.bd, st.wn⟩ :=
  ⟨w.sp, mv_asc w.lv, w.bd, w.wn, fun y hy => by
    obtain ⟨z, hz, rfl⟩ := List.mem_map.1 hy
    have : (if z.2 = f then (z.1, t) else z).1 = z.1 := by split <;> rfl
    rw [this]; exact w.own z hz, w.ids, w.bds, w.wns⟩
/-- Leaves that are moved. -/
theorem do_move (m : DoM H v st x G) : WP (loopW (ref08_State_Do.s1 H (H ++ [.cells [.sl 3 v.1, .sl 3 v.2.1, .sl 1 v.2.2.1, .sl 2 v.2.2.2.1] .exact])) (⟨some (G.length, 0), 0, 0⟩, 0, ()) (G ++ [.cells [] .exact]))
    fun r => ∃ s, r.1 = (s, ()) ∧ Em (G ++ [.cells [] .exact]) ⟨some (G.length, 0), 0, 0⟩ 3 r.2 s (rowsOf ctL ((mv x.2.2.2.1 x.2.2.2.2.1 st.lv).map rlv)) ∧ s.len = st.lv.length := by
  have hH1 : (H ++ [Blk.cells [.sl 3 v.1, .sl 3 v.2.1, .sl 1 v.2.2.1, .sl 2 v.2.2.2.1] .exact]).length = H.length + 1 := by simp
  generalize H ++ [Blk.cells [.sl 3 v.1, .sl 3 v.2.1, .sl 1 v.2.2.1, .sl 2 v.2.2.2.1] .exact] = H1 at hH1
  have m0 := m.keep (Keep.app (fun _ => False) G [.cells [] .exact])
  have hmany := m.s.w.many
  have hoff : ∀ b o, (⟨some (G.length, 0), 0, 0⟩ : Sl).p = some (b, o) → b = G.length := fun b o hh => by cases hh; rfl
  have hst : ∀ {G' : Heap} {s : Sl} {cs : List C}, Em (G ++ [.cells [] .exact]) ⟨some (G.length, 0), 0, 0⟩ 3 G' s cs → RfAt G' v st ∧ G'[H.length]? = some (.cells (vC v) .exact) ∧ G'[H.length + 1]? = some (recB x) := fun hE => by
    have h1 := get_lt m.b0
    have h2 := get_lt m.b1
    refine ⟨m0.s.keep hE.k fun b hb ⟨o, ho⟩ => ?_, hE.get m0.b0 fun o ho => ?_, hE.get m0.b1 fun o ho => ?_⟩
    · have := hoff b o ho; have := m.o b hb; omega
    · have := hoff _ o ho; omega
    · have := hoff _ o ho; omega
  have h0 : Em (G ++ [.cells [] .exact]) ⟨some (G.length, 0), 0, 0⟩ 3 (G ++ [.cells [] .exact]) ⟨some (G.length, 0), 0, 0⟩ [] := Em.start ⟨rfl, rfl, fun hh => (by cases hh), fun a ha => by cases ha; exact ⟨rfl, .inr (by rw [tl_get0]; rfl)⟩⟩
  refine wp_mono (wp_rise st.lv.length (fun i y G' => ∃ s, y = (s, (i : Int), ()) ∧ Em (G ++ [.cells [] .exact]) ⟨some (G.length, 0), 0, 0⟩ 3 G' s (rowsOf ctL ((mv x.2.2.2.1 x.2.2.2.2.1 (st.lv.take i)).map rlv)) ∧ s.len = i)
    (fun y G' => ∃ s, y = (s, ()) ∧ Em (G ++ [.cells [] .exact]) ⟨some (G.length, 0), 0, 0⟩ 3 G' s (rowsOf ctL ((mv x.2.2.2.1 x.2.2.2.2.1 st.lv).map rlv)) ∧ s.len = st.lv.length) ?_ ?_ ?_) (fun r hr => hr)
  · rintro i y K hi ⟨s, rfl, hE, hn⟩
    obtain ⟨hK, hb0, hb1⟩ := hst hE
    have hlm : (st.lv.map rlv).length = st.lv.length := List.length_map _
    have hx : (st.lv.map rlv)[i]'(by omega) = rlv st.lv[i] := List.getElem_map _
    have hv : rdSl 3 K H.length 1 = some v.2.1 := rdSl_of hb0 rfl
    obtain ⟨b0, o0, r1, r2, _⟩ := Row.rd (cts := ctL) (rows := st.lv.map rlv) hK.lv (i := i) (by omega) (by decide)
    rw [hx] at r2
    rw [take_snoc hi, mv_snoc]
    generalize st.lv[i] = y at r2 ⊢
    have hb1' : (K ++ [Blk.cells [.int .i64 (y.1 / 1024), .int .i64 (y.1 % 1024), .int .i64 y.2] .exact])[H.length + 1]? = some (recB x) := by rw [List.getElem?_append_left (get_lt hb1)]; exact hb1
    have t0 : (K ++ [Blk.cells [.int .i64 (y.1 / 1024), .int .i64 (y.1 % 1024), .int .i64 y.2] .exact])[K.length]? = some (.cells [.int .i64 (y.1 / 1024), .int .i64 (y.1 % 1024), .int .i64 y.2] .exact) := by rw [tl_get0]; rfl
    have hw := wrap_succ (show i < 9223372036854775807 by omega)
    unfold ref08_State_Do.s1
    refine wp_to hv (wp_t (decide_eq_true (by rw [m.s.lvl]; exact Int.ofNat_lt.2 hi)) (wp_to hv (wp_to r1 (wp_to r2 (wp_tmp (wp_to (rdI_of t0 rfl) ?_))))))
    rw [hH1]
    refine wp_to (rdI_of hb1' rfl) (wp_if (p := y.2 = x.2.2.2.1) rfl (fun e => ?_) (fun e => ?_))
    · refine wp_to (rdI_of hb1' rfl) ?_
      have hw2 : wr (K ++ [Blk.cells [.int .i64 (y.1 / 1024), .int .i64 (y.1 % 1024), .int .i64 y.2] .exact]) K.length 2 [.int .i64 x.2.2.2.2.1] = some (K ++ [Blk.cells [.int .i64 (y.1 / 1024), .int .i64 (y.1 % 1024), .int .i64 x.2.2.2.2.1] .exact]) := by
        rw [wr_t0, wr_c0 _ _ _ _ (by simp)]; rfl
      refine wp_to hw2 (wp_to (rd3_of (cts := ctL) (x := (y.1 / 1024, y.1 % 1024, x.2.2.2.2.1, ())) (by rw [tl_get0]; rfl) rfl) ?_)
      refine wp_app (hE.push _) rfl (by decide) (by omega) fun s' G' hE' hn' => wp_some ⟨s', ?_, ?_, ?_⟩
      · simp only [hw]
      · rw [if_pos e, List.map_append, rowsOf_append']; exact hE'
      · rw [hn', hn]
    · refine wp_to (rd3_of (cts := ctL) (x := (y.1 / 1024, y.1 % 1024, y.2, ())) t0 rfl) ?_
      refine wp_app (hE.push _) rfl (by decide) (by omega) fun s' G' hE' hn' => wp_some ⟨s', ?_, ?_, ?_⟩
      · simp only [hw]
      · rw [if_neg e, List.map_append, rowsOf_append']; exact hE'
      · rw [hn', hn]
  · rintro y K ⟨s, rfl, hE, hn⟩
    rw [List.take_length] at hE
    obtain ⟨hK, hb0, hb1⟩ := hst hE
    have hv : rdSl 3 K H.length 1 = some v.2.1 := rdSl_of hb0 rfl
    unfold ref08_State_Do.s1
    exact wp_to hv (wp_f (decide_eq_false (by rw [m.s.lvl]; exact Int.lt_irrefl _)) (wp_some ⟨s, rfl, hE, hn⟩))
  · exact ⟨_, rfl, h0, rfl⟩
end
end Ev

namespace Ev
open Go (IntKind)

section
variable {H G K : Heap} {v v' w0 : RfV} {st st' : Sta} {x : RecT}
theorem DoM.set (m : DoM H v st x K) {B : Nat} (hB : H.length + 3 ≤ B) (z : Blk) : DoM H v st x (K.set B z) := by
  have kk : Keep (fun b => b = B) K (K.set B z) := Keep.set _ _ _ rfl
  exact ⟨m.s.keep kk fun b hb e => by have := m.o b hb; omega, ⟨by have := m.k.len; simp only [List.length_set]; omega, fun b hb _ => by rw [set_get' (by omega)]; exact m.k.same b hb fun hf => hf⟩,
    kk.get m.b0 (by omega), kk.get m.b1 (by omega), kk.get m.b2 (by omega), m.o⟩
theorem do_copy (m : DoM H v st x G) {to q : Int} (hto : x.2.2.2.2.1 = to) {s0 : Sta} (hs0 : s0 = ⟨ains st.sp to (q, false), st.lv, st.bd, st.wn⟩) (hw0 : RfAt G w0 s0) (hn0 : ∀ b, blkV w0 b → (blkV v b ∨ H.length + 3 ≤ b)) :
    WP (loopW (ref08_State_Do.s2 H (H ++ [.cells [.sl 3 v.1, .sl 3 v.2.1, .sl 1 v.2.2.1, .sl 2 v.2.2.2.1] .exact]) ((w0, ()), G)) (0, ()) (G ++ [.cells (vC w0) .exact]))
      fun r => ∃ w, DoM H v st x r.2 ∧ RfAt r.2 w ⟨ains st.sp to (q, false), insAll to st.lv (pgs st.lv x.2.1), st.bd, st.wn⟩ ∧ r.2[G.length]? = some (.cells (vC w) .exact) ∧ ∀ b, blkV w b → (blkV v b ∨ H.length + 3 ≤ b) ∧ b ≠ G.length := by
  have hH1 : (H ++ [Blk.cells [.sl 3 v.1, .sl 3 v.2.1, .sl 1 v.2.2.1, .sl 2 v.2.2.2.1] .exact]).length = H.length + 1 := by simp
  generalize H ++ [Blk.cells [.sl 3 v.1, .sl 3 v.2.1, .sl 1 v.2.2.1, .sl 2 v.2.2.2.1] .exact] = H1 at hH1
  have hBl : H.length + 3 ≤ G.length := by have := get_lt m.b2; omega
  have hmany := m.s.w.many
  refine wp_mono (wp_rise (step := ref08_State_Do.s2 H H1 ((w0, ()), G)) st.lv.length (fun i y K => y = ((i : Int), ()) ∧ ∃ w, DoM H v st x K ∧ RfAt K w ⟨ains st.sp to (q, false), insAll to st.lv (pgs (st.lv.take i) x.2.1), st.bd, st.wn⟩ ∧ K[G.length]? = some (.cells (vC w) .exact) ∧ ∀ b, blkV w b → (blkV v b ∨ H.length + 3 ≤ b) ∧ b ≠ G.length)
    (fun _ K => ∃ w, DoM H v st x K ∧ RfAt K w ⟨ains st.sp to (q, false), insAll to st.lv (pgs st.lv x.2.1), st.bd, st.wn⟩ ∧ K[G.length]? = some (.cells (vC w) .exact) ∧ ∀ b, blkV w b → (blkV v b ∨ H.length + 3 ≤ b) ∧ b ≠ G.length) ?_ ?_ ?_) (fun r hr => hr)
  · rintro i y K hi ⟨rfl, w, mK, hw, hB, hn⟩
    have hlm : (st.lv.map rlv).length = st.lv.length := List.length_map _
    have hx : (st.lv.map rlv)[i]'(by omega) = rlv st.lv[i] := List.getElem_map _
    obtain ⟨b0, o0, r1, r2, _⟩ := Row.rd (cts := ctL) (rows := st.lv.map rlv) mK.s.lv (i := i) (by omega) (by decide)
    rw [hx] at r2
    rw [pgs_take st.lv x.2.1 hi]
    generalize st.lv[i] = y at r2 ⊢
    have mK' := mK.keep (Keep.app (fun _ => False) K [.cells [.int .i64 (y.1 / 1024), .int .i64 (y.1 % 1024), .int .i64 y.2] .exact])
    have hw' := hw.keep (Keep.app (fun _ => False) K [.cells [.int .i64 (y.1 / 1024), .int .i64 (y.1 % 1024), .int .i64 y.2] .exact]) fun _ _ hf => hf
    have hB' : (K ++ [Blk.cells [.int .i64 (y.1 / 1024), .int .i64 (y.1 % 1024), .int .i64 y.2] .exact])[G.length]? = some (.cells (vC w) .exact) := by rw [List.getElem?_append_left (get_lt hB)]; exact hB
    have t0 : (K ++ [Blk.cells [.int .i64 (y.1 / 1024), .int .i64 (y.1 % 1024), .int .i64 y.2] .exact])[K.length]? = some (.cells [.int .i64 (y.1 / 1024), .int .i64 (y.1 % 1024), .int .i64 y.2] .exact) := by rw [tl_get0]; rfl
    have hwr := wrap_succ (show i < 9223372036854775807 by omega)
    unfold ref08_State_Do.s2
    refine wp_to mK.lv (wp_t (decide_eq_true (by rw [m.s.lvl]; exact Int.ofNat_lt.2 hi)) (wp_to mK.lv (wp_to r1 (wp_to r2 (wp_tmp (wp_to (rdI_of t0 rfl) ?_))))))
    rw [hH1]
    refine wp_to mK'.x1 (wp_if (p := y.1 / 1024 = x.2.1) rfl (fun e => ?_) (fun e => ?_))
    · have hrB : rd (K ++ [Blk.cells [.int .i64 (y.1 / 1024), .int .i64 (y.1 % 1024), .int .i64 y.2] .exact]) (.agg [.sl 3, .sl 3, .sl 1, .sl 2]) G.length 0 = (some w : Option RfV) := rd_agg_of hB' (by simp [vC]) rfl
      refine wp_to hrB (wp_to mK'.x4 (wp_to (rdI_of t0 rfl) (wp_to (rdI_of t0 rfl) ?_)))
      obtain ⟨w', K2, e1, e2⟩ := rf_with hw' (id := to) (p := y.1 % 1024) (pl := y.2) (by omega) (x := (q, false)) (by show afind (ains st.sp to (q, false)) to = _; rw [afind_ins m.s.w.sp, if_pos rfl])
      rw [hto]
      have hB2 := e2.k.get hB' fun hf => hf
      have hw2 : wr K2 G.length 0 [.sl 3 w'.1, .sl 3 w'.2.1, .sl 1 w'.2.2.1, .sl 2 w'.2.2.2.1] = some (K2.set G.length (.cells (vC w') .exact)) := by
        rw [wr_of hB2 (by decide) (by simp [vC])]; rfl
      have hn' : ∀ b, blkV w' b → (blkV v b ∨ H.length + 3 ≤ b) ∧ b ≠ G.length := fun b hb => (e2.n b hb).elim (hn b) fun hh => by
        have := get_lt hB'
        exact ⟨.inr (by omega), by omega⟩
      refine wp_to e1 (wp_to hw2 (wp_some ⟨?_, w', (mK'.keep e2.k).set hBl _, ?_, set_get (get_lt hB2), hn'⟩))
      · simp only [hwr]
      · rw [if_pos e, insAll_snoc]
        exact e2.s.keep (F := fun b => b = G.length) (Keep.set _ _ _ rfl) fun b hb => (hn' b hb).2
    · refine wp_some ⟨?_, w, mK', ?_, hB', hn⟩
      · simp only [hwr]
      · rw [if_neg e, List.append_nil]; exact hw'
  · rintro y K ⟨rfl, w, mK, hw, hB, hn⟩
    rw [List.take_length] at hw
    unfold ref08_State_Do.s2
    exact wp_to mK.lv (wp_f (decide_eq_false (by rw [m.s.lvl]; exact Int.lt_irrefl _)) (wp_some ⟨w, mK, hw, hB, hn⟩))
  · subst hs0
    have k0 := Keep.app (fun _ => False) G [.cells (vC w0) .exact]
    refine ⟨rfl, w0, m.keep k0, ?_, by rw [tl_get0]; rfl, fun b hb => ⟨hn0 b hb, ?_⟩⟩
    · exact hw0.keep k0 fun _ _ hf => hf
    · have := hw0.lt hb; omega
end
theorem ains_self {α : Type} {l : List (Int × α)} (h : Asc l) {k : Int} {v : α} (hv : afind l k = some v) : ains l k v = l :=
  asc_ext (h.ins _ _) h fun j => by
    rw [afind_ins h]
    split
    · rename_i e; rw [e, hv]
    · rfl
theorem worn_eq {l : List (Int × Int)} (h : Asc l) (k : Int) {n : Int} (hn : 0 ≤ n) {wn : List (Int × Int)} (h1 : (∀ x ∈ l, ¬ (x.1 = k ∧ n < x.2)) → wn = ains l k n) (h2 : (∃ x ∈ l, x.1 = k ∧ n < x.2) → wn = l) :
    wn = ains l k (if n > (afind l k).getD 0 then n else (afind l k).getD 0) := by
  cases hf : afind l k with
  | none =>
    rw [h1 fun x hx hh => by rw [show k = x.1 from hh.1.symm, h.find (v := x.2) hx] at hf; cases hf]
    show _ = ains l k (if n > 0 then n else 0)
    congr 1
    split <;> omega
  | some o =>
    show _ = ains l k (if n > o then n else o)
    by_cases e : n < o
    · rw [h2 ⟨_, afind_mem hf, rfl, e⟩, if_neg (by omega), ains_self h hf]
    · rw [h1 fun x hx hh => by
        rw [show k = x.1 from hh.1.symm, h.find (v := x.2) hx] at hf
        cases hf
        exact e hh.2]
      congr 1
      split <;> omega
section
variable {H G K : Heap} {v v' w0 : RfV} {st st' : Sta} {x : RecT}
/-- All that a record does. -/
theorem rf_Do (h : RfAt H v st) (g : x.1 ≠ 1 → GoodR x) (hn9 : x.1 = 9 → 0 ≤ x.2.2.2.2.2.1) : WP (ref08_State_Do v x H) (DoQ H v st x) := by
  have m := rf_begin h x
  have hH1 : (H ++ [Blk.cells [.sl 3 v.1, .sl 3 v.2.1, .sl 1 v.2.2.1, .sl 2 v.2.2.2.1] .exact]).length = H.length + 1 := by simp
  unfold ref08_State_Do
  simp only [List.append_assoc, List.cons_append, List.nil_append, List.length_append, List.length_cons, List.length_nil, Nat.zero_add]
  generalize H ++ [Blk.cells [.sl 3 v.1, .sl 3 v.2.1, .sl 1 v.2.2.1, .sl 2 v.2.2.2.1] .exact, .cells [.int .i64 x.1, .int .i64 x.2.1, .int .i64 x.2.2.1, .int .i64 x.2.2.2.1, .int .i64 x.2.2.2.2.1, .int .i64 x.2.2.2.2.2.1] .exact, .cells [.sl 3 Sl.nil, .sl 3 Sl.nil, .sl 1 Sl.nil, .sl 2 Sl.nil] .exact] = G0 at m ⊢
  obtain ⟨i0, f1, f2, f3⟩ := rf_find m.s x.2.1
  have m1 := m.keep (Keep.app (fun _ => False) G0 [.cells (vC v) .exact])
  obtain ⟨G1, g1, gk⟩ := rf_get m1.s x.2.1 x.2.2.1
  have m2 := m1.keep gk
  refine wp_to m.rv (wp_to m.x1 (wp_to f1 (wp_to m1.rv (wp_to m1.x1 (wp_to m1.x2 (wp_to g1 (wp_to m2.x0 ?_)))))))
  clear m m1 f1 g1 gk
  refine wp_if (p := x.1 = 3) rfl (fun k3 => ?_) (fun k3 => ?_)
  · have hap : st.applyS x = st.moveS x.2.2.2.1 x.2.2.2.2.1 := by unfold Sta.applyS; rw [if_neg (by omega), if_pos k3]
    unfold Sta.moveS at hap
    have q1 := rf_refs m2.s x.2.2.2.1
    have m3 := m2.keep (Keep.app (fun _ => False) G1 [.cells (vC v) .exact])
    refine wp_to m2.rv (wp_to m2.x3 (wp_to q1 (wp_if (p := cnt st.lv x.2.2.2.1 = 0) (decide_eq_decide.2 Int.natCast_eq_zero) (fun e => ?_) (fun e => ?_))))
    · rw [if_pos e] at hap
      exact m3.err hap
    · rw [if_neg e] at hap
      have q2 := rf_refs m3.s x.2.2.2.2.1
      have m4 := m3.keep (Keep.app (fun _ => False) _ [.cells (vC v) .exact])
      refine wp_to m3.rv (wp_to m3.x4 (wp_to q2 (wp_if (p := 0 < cnt st.lv x.2.2.2.2.1) (decide_eq_decide.2 Int.natCast_pos) (fun e => ?_) (fun e => ?_))))
      · rw [if_pos e] at hap
        exact m4.err hap
      · rw [if_neg e] at hap
        refine wp_seq _ (do_move m4) ?_
        generalize G1 ++ [Blk.cells (vC v) .exact] ++ [.cells (vC v) .exact] = G4 at m4 ⊢
        rintro ⟨⟨s, ⟨⟩⟩, G5⟩ ⟨s', hs, hE, hn⟩
        cases hs
        have h2 := get_lt m4.b2
        have hE : Em (G4 ++ [.cells [] .exact]) ⟨some (G4.length, 0), 0, 0⟩ 3 G5 s (rowsOf ctL ((mv x.2.2.2.1 x.2.2.2.2.1 st.lv).map rlv)) := hE
        have hoff : ∀ b o, (⟨some (G4.length, 0), 0, 0⟩ : Sl).p = some (b, o) → b = G4.length := fun b o hh => by cases hh; rfl
        have m5 := m4.keep (Keep.app (fun _ => False) G4 [.cells [] .exact])
        have s5 : RfAt G5 v st := m5.s.keep hE.k fun b hb ⟨o, ho⟩ => by have := hoff b o ho; have := m4.o b hb; omega
        have c0 : G5[H.length]? = some (.cells (vC v) .exact) := hE.get m5.b0 fun o ho => by have := hoff _ o ho; omega
        have c2 : G5[H.length + 2]? = some (.cells nilV .exact) := hE.get m5.b2 fun o ho => by have := hoff _ o ho; omega
        have hk5 : Keep (fun _ => False) H G5 := ⟨by have := m5.k.len; have := hE.k.len; omega, fun b hb _ => by
          rw [hE.k.same b (by have := m5.k.len; omega) fun ⟨o, ho⟩ => by have := hoff _ o ho; omega]
          exact m5.k.same b hb fun hf => hf⟩
        have hw : wr G5 H.length 1 [.sl 3 s] = some (G5.set H.length (.cells (vC (v.1, s, v.2.2.1, v.2.2.2.1, ())) .exact)) := by rw [wr1_of c0 (by decide) (by simp [vC])]; rfl
        have hrd : rd (G5.set H.length (.cells (vC (v.1, s, v.2.2.1, v.2.2.2.1, ())) .exact)) (.agg [.sl 3, .sl 3, .sl 1, .sl 2]) H.length 0 = (some (v.1, s, v.2.2.1, v.2.2.2.1, ()) : Option RfV) := rd_agg_of (set_get (get_lt c0)) (by simp [vC]) rfl
        have hso : ∀ b o, s.p = some (b, o) → G4.length ≤ b := fun b o hp => by
          rcases hE.o _ hp with hh | ⟨o', hh⟩
          · simp only [List.length_append] at hh; omega
          · have := hoff _ _ hh; simp only at this; omega
        have kf : Keep (fun b => b = H.length) G5 (G5.set H.length (.cells (vC (v.1, s, v.2.2.1, v.2.2.2.1, ())) .exact)) := Keep.set _ _ _ rfl
        have s6 := s5.keep kf fun b hb e => by have := m4.o b hb; omega
        refine wp_to hw (wp_to hrd (ret_state (v' := (v.1, s, v.2.2.1, v.2.2.2.1, ())) (st' := ⟨st.sp, mv x.2.2.2.1 x.2.2.2.2.1 st.lv, st.bd, st.wn⟩) (H := H) (v0 := v) (B := H.length + 2) ?_ ?_ (by omega) (kf.get c2 (by omega)) rfl (fun b hb => ?_) fun G' hr => ?_))
        · exact ⟨s5.w.moved _ _, s6.sp, (Row.grown hE.g).keep kf fun b o hp e => by have := hso b o hp; omega, s6.bd, s6.wn, s6.spl, by rw [hn, mv_len], s6.bdl, s6.wnl⟩
        · exact ⟨by have := hk5.len; simp only [List.length_set]; omega, fun b hb _ => by rw [set_get' (by omega)]; exact hk5.same b hb fun hf => hf⟩
        · rcases hb with hb | ⟨o, ho⟩ | hb | hb
          · have hb' : blkV v b := .inl hb
            have := m4.o b hb'; exact ⟨.inl hb', by omega⟩
          · have := hso b o ho
            exact ⟨.inr (by omega), by omega⟩
          · have hb' : blkV v b := .inr (.inr (.inl hb))
            have := m4.o b hb'; exact ⟨.inl hb', by omega⟩
          · have hb' : blkV v b := .inr (.inr (.inr hb))
            have := m4.o b hb'; exact ⟨.inl hb', by omega⟩
        · unfold DoQ
          rw [hap]
          exact ⟨rfl, hr⟩
  refine wp_if (p := x.1 = 4) rfl (fun k4 => ?_) (fun k4 => ?_)
  · have hap : st.applyS x = st.openS x.2.1 x.2.2.2.2.2.1 [] := by unfold Sta.applyS; rw [if_pos k4]
    unfold Sta.openS at hap
    cases hf : afind st.sp x.2.1 with
    | some y =>
      obtain ⟨j, rfl, _⟩ := f3 y hf
      rw [hf, if_pos (show (some y).isSome = true from rfl)] at hap
      exact wp_t (decide_eq_true (Int.natCast_nonneg _)) (m2.err hap)
    | none =>
      rw [f2 hf]
      rw [hf, if_neg (by decide)] at hap
      refine wp_f rfl (wp_to m2.rv (wp_to m2.x1 (wp_to m2.x5 ?_)))
      exact wp_seq _ (rf_made m2.s false ((g (by omega)).k4 k4).1 ((g (by omega)).k4 k4).2) fun r hr => m2.ret hr hap
  refine wp_if (p := x.1 = 8) rfl (fun k8 => ?_) (fun k8 => ?_)
  · have hap : st.applyS x = (0, ⟨st.sp, st.lv, ains st.bd x.2.2.2.1 (), st.wn⟩) := by unfold Sta.applyS; rw [if_neg k4, if_neg k3, if_pos k8]
    refine wp_to m2.rv (wp_to m2.x3 (wp_seq _ (rf_bad m2.s ((g (by omega)).k8 k8)) fun r hr => m2.ret hr hap))
  refine wp_if (p := x.1 = 9) rfl (fun k9 => ?_) (fun k9 => ?_)
  · refine wp_to m2.rv (wp_to m2.x3 (wp_to m2.x5 (wp_seq _ (rf_worn m2.s ((g (by omega)).k9 k9)) fun r ⟨wn, h1, h2, hr⟩ => m2.ret hr ?_)))
    unfold Sta.applyS
    rw [if_neg k4, if_neg k3, if_neg k8, if_pos k9, worn_eq h.w.wn _ (hn9 k9) h1 h2]
  have hap0 := show st.applyS x = _ by unfold Sta.applyS; rw [if_neg k4, if_neg k3, if_neg k8, if_neg k9]
  cases hf : afind st.sp x.2.1 with
  | none =>
    rw [hf] at hap0
    rw [f2 hf]
    exact wp_t rfl (m2.err hap0)
  | some y =>
    obtain ⟨j, rfl, hj, hje⟩ := f3 y hf
    rw [hf] at hap0
    simp only at hap0
    have hlm : (st.sp.map rsp).length = st.sp.length := List.length_map _
    have hx : (st.sp.map rsp)[j]'(by omega) = rsp st.sp[j] := List.getElem_map _
    obtain ⟨b0, o0, r1, r2, _⟩ := Row.rd (cts := ctP) (rows := st.sp.map rsp) m2.s.sp (i := j) (by omega) (by decide)
    rw [hx, hje] at r2
    have hid := h.w.ids _ (afind_mem hf)
    have r2 : rd G1 (.agg [.int .i64, .int .i64, .bool]) b0 o0 = (some (x.2.1, y.1, y.2, ()) : Option (Int × Int × Bool × Unit)) := r2
    refine wp_f (decide_eq_false (Int.not_lt.2 (Int.natCast_nonneg _))) (wp_to m2.sp (wp_to r1 (wp_to r2 (wp_tmpB ?_))))
    have m3 := m2.keep (Keep.app (fun _ => False) G1 [.cells [.int .i64 x.2.1, .int .i64 y.1, .bool y.2] .exact])
    have t0 : (G1 ++ [Blk.cells [.int .i64 x.2.1, .int .i64 y.1, .bool y.2] .exact])[G1.length]? = some (.cells [.int .i64 x.2.1, .int .i64 y.1, .bool y.2] .exact) := by rw [tl_get0]; rfl
    refine wp_to m3.x0 (wp_if (p := x.1 = 1) rfl (fun k1 => ?_) (fun k1 => ?_))
    · rw [if_pos k1] at hap0
      refine wp_to m3.x2 (wp_if (p := x.2.2.1 < 0) rfl (fun e => ?_) (fun e => ?_))
      · rw [if_pos e] at hap0
        exact m3.err hap0
      · rw [if_neg e] at hap0
        refine wp_to m3.x2 (wp_to (rdI_of t0 rfl) (wp_if (p := y.1 ≤ x.2.2.1) rfl (fun e2 => ?_) (fun e2 => ?_)))
        · rw [if_pos e2] at hap0
          exact m3.err hap0
        · rw [if_neg e2] at hap0
          obtain ⟨w', K, u1, u2⟩ := rf_with m3.s (id := x.2.1) (p := x.2.2.1) (pl := x.2.2.2.1) (by have := hid.2.2; simp only at this; omega) hf
          exact wp_to m3.rv (wp_to m3.x1 (wp_to m3.x2 (wp_to m3.x3 (wp_to u1 (m3.ret u2 hap0)))))
    · rw [if_neg k1] at hap0
      refine wp_if (p := x.1 = 2) rfl (fun k2 => ?_) (fun k2 => ?_)
      · rw [if_pos k2] at hap0
        refine wp_c (fun e => ?_) (fun e => ?_)
        · have e : ¬ (afind (pgs st.lv x.2.1) x.2.2.1).isSome = true := by simpa using e
          rw [if_neg e] at hap0
          exact m3.err hap0
        · have e : (afind (pgs st.lv x.2.1) x.2.2.1).isSome = true := by simpa using e
          rw [if_pos e] at hap0
          have hp : 0 ≤ x.2.2.1 ∧ x.2.2.1 < 1024 := by
            rw [pgs_find h.w.lv] at e
            by_cases hp : 0 ≤ x.2.2.1 ∧ x.2.2.1 < 1024
            · exact hp
            · rw [if_neg hp] at e; cases e
          exact wp_to m3.rv (wp_to m3.x1 (wp_to m3.x2 (wp_seq _ (rf_trim m3.s x.2.1 hp) fun r hr => m3.ret hr hap0)))
      · rw [if_neg k2] at hap0
        refine wp_if (p := x.1 = 5) rfl (fun k5 => ?_) (fun k5 => ?_)
        · rw [if_pos k5] at hap0
          exact wp_to m3.rv (wp_to m3.x1 (wp_seq _ (rf_dropped m3.s x.2.1) fun r hr => m3.ret hr hap0))
        · rw [if_neg k5] at hap0
          refine wp_if (p := x.1 = 6) rfl (fun k6 => ?_) (fun k6 => ?_)
          · rw [if_pos k6] at hap0
            unfold Sta.openS at hap0
            obtain ⟨i1, q1, q2, q3⟩ := rf_find m3.s x.2.2.2.2.1
            have m4 := m3.keep (Keep.app (fun _ => False) _ [.cells (vC v) .exact])
            refine wp_to m3.rv (wp_to m3.x4 (wp_to q1 ?_))
            cases hf2 : afind st.sp x.2.2.2.2.1 with
            | some z =>
              obtain ⟨j2, rfl, _⟩ := q3 z hf2
              rw [hf2, if_pos (show (some z).isSome = true from rfl)] at hap0
              exact wp_t (decide_eq_true (Int.natCast_nonneg _)) (m4.err hap0)
            | none =>
              rw [q2 hf2]
              rw [hf2, if_neg (by decide)] at hap0
              have t1 : (G1 ++ [Blk.cells [.int .i64 x.2.1, .int .i64 y.1, .bool y.2] .exact] ++ [.cells (vC v) .exact])[G1.length]? = some (.cells [.int .i64 x.2.1, .int .i64 y.1, .bool y.2] .exact) := by rw [List.getElem?_append_left (get_lt t0)]; exact t0
              refine wp_f rfl (wp_to m4.rv (wp_to m4.x4 (wp_to (rdI_of t1 rfl) (wp_seq _ (rf_made m4.s false ((g (by omega)).k6 k6) hid.2.2) ?_))))
              rintro ⟨⟨w0, ⟨⟩⟩, G5⟩ hr
              have hr : RRes _ v G5 w0 ⟨ains st.sp x.2.2.2.2.1 (y.1, false), st.lv, st.bd, st.wn⟩ := hr
              have m5 := m4.keep hr.k
              have hw : wr (G5 ++ [Blk.cells [.sl 3 Sl.nil, .sl 3 Sl.nil, .sl 1 Sl.nil, .sl 2 Sl.nil] .exact]) G5.length 0 [.sl 3 w0.1, .sl 3 w0.2.1, .sl 1 w0.2.2.1, .sl 2 w0.2.2.2.1] = some (G5 ++ [.cells (vC w0) .exact]) := by
                rw [wr_t0, wr_c0 _ _ _ _ (by simp)]; rfl
              refine wp_to hw (wp_seq _ (do_copy m5 rfl rfl hr.s fun b hb => (hr.n b hb).imp_right fun hh => ?_) ?_)
              · have := get_lt m4.b2; omega
              rintro ⟨⟨⟩, G6⟩ ⟨w, m6, hw6, hB6, hn6⟩
              have hrd : rd G6 (.agg [.sl 3, .sl 3, .sl 1, .sl 2]) G5.length 0 = (some w : Option RfV) := rd_agg_of hB6 (by simp [vC]) rfl
              refine wp_to hrd (ret_state (v0 := v) (H := H) (B := H.length + 2) hw6 m6.k (by omega) m6.b2 rfl (fun b hb => ?_) fun G' hr' => ?_)
              · rcases (hn6 b hb).1 with hh | hh
                · have := m6.o b hh; exact ⟨.inl hh, by omega⟩
                · exact ⟨.inr (by omega), by omega⟩
              · unfold DoQ
                rw [hap0]
                exact ⟨rfl, hr'⟩
          · rw [if_neg k6] at hap0
            exact wp_to m3.rv (wp_to (rdI_of t0 rfl) (wp_to (rdI_of t0 rfl) (wp_seq _ (rf_made m3.s true ⟨hid.1, hid.2.1⟩ hid.2.2) fun r hr => m3.ret hr hap0)))
end
end Ev

namespace Ev
open Go (IntKind)

section
variable {H G K : Heap} {v v' w0 : RfV} {st st' : Sta} {x : RecT}
theorem DoM.rx (m : DoM H v st x G) : rd G (.agg [.int .i64, .int .i64, .int .i64, .int .i64, .int .i64, .int .i64]) (H.length + 1) 0 = (some x : Option RecT) := rd_agg_of m.b1 (by simp) (by obtain ⟨a, b, c, d, e, f, ⟨⟩⟩ := x; rfl)
theorem chk_nine {x : RecT} (h : chkR x = true) (k9 : x.1 = 9) : 0 ≤ x.2.2.2.2.2.1 := by
  unfold chkR at h
  simp only [k9, inAll, inB] at h
  simp at h
  omega
theorem rf_Apply (h : RfAt H v st) (x : RecT) : WP (ref08_State_Apply v x H) fun r => r.1.2.1 = (st.doS x).1 ∧ RRes H v r.2 r.1.1 (st.doS x).2 := by
  have m := rf_begin h x
  unfold ref08_State_Apply Sta.doS
  simp only [List.append_assoc, List.cons_append, List.nil_append, List.length_append, List.length_cons, List.length_nil, Nat.zero_add]
  generalize H ++ [Blk.cells [.sl 3 v.1, .sl 3 v.2.1, .sl 1 v.2.2.1, .sl 2 v.2.2.2.1] .exact, .cells [.int .i64 x.1, .int .i64 x.2.1, .int .i64 x.2.2.1, .int .i64 x.2.2.2.1, .int .i64 x.2.2.2.2.1, .int .i64 x.2.2.2.2.2.1] .exact, .cells [.sl 3 Sl.nil, .sl 3 Sl.nil, .sl 1 Sl.nil, .sl 2 Sl.nil] .exact] = G0 at m ⊢
  have hc : ref07_Check (x.1, x.2.1, x.2.2.1, x.2.2.2.1, x.2.2.2.2.1, x.2.2.2.2.2.1, ()) = some (chkR x, ()) := by
    obtain ⟨a, b, c, d, e, f, ⟨⟩⟩ := x
    exact ref07_check_eq _
  refine wp_to m.rx (wp_to hc (wp_c (fun e => ?_) (fun e => ?_)))
  · have e : ¬ chkR x = true := by simpa using e
    rw [if_neg e]
    exact wp_to m.rv (ret_state (v0 := v) m.s m.k (by omega) m.b2 rfl (fun b hb => ⟨.inl hb, by have := m.o b hb; omega⟩) fun G' hr => ⟨rfl, hr⟩)
  · have e : chkR x = true := by simpa using e
    rw [if_pos e]
    have hx : ((x.1, x.2.1, x.2.2.1, x.2.2.2.1, x.2.2.2.2.1, x.2.2.2.2.2.1, ()) : RecT) = x := by obtain ⟨a, b, c, d, e, f, ⟨⟩⟩ := x; rfl
    refine wp_to m.rv (wp_to m.rx ?_)
    rw [hx]
    refine wp_seq _ (rf_Do m.s (fun _ => chk_good e) (chk_nine e)) ?_
    rintro ⟨⟨v', e', ⟨⟩⟩, G1⟩ ⟨he, hr⟩
    have hr : RRes G0 v G1 v' (st.applyS x).2 := hr
    have he : e' = (st.applyS x).1 := he
    subst he
    refine ret_state (v0 := v) hr.s (m.k.trans hr.k) (by omega) (hr.k.get m.b2 fun hf => hf) rfl (fun b hb => ?_) fun G' hr' => ⟨rfl, hr'⟩
    rcases hr.n b hb with hh | hh
    · exact ⟨.inl hh, by have := m.o b hh; omega⟩
    · have := get_lt m.b2
      exact ⟨.inr (by omega), by omega⟩
end
end Ev

namespace Ev
open Go (IntKind)

theorem wp_tmp4 {G : Heap} {β : Type} {a b c : Int} {d : Bool} {K : Heap → Option β} {Q : β → Prop} (k : WP (K (G ++ [.cells [.int .i64 a, .int .i64 b, .int .i64 c, .bool d] .exact])) Q) :
    WP ((wr (G ++ [.cells [.int .i64 0, .int .i64 0, .int .i64 0, .bool false] .exact]) G.length 0 [.int .i64 a, .int .i64 b, .int .i64 c, .bool d]).bind K) Q :=
  wp_to (by rw [wr_t0, wr_c0 _ _ _ _ (by simp)]; rfl) k
end Ev

namespace Ev
open Go (IntKind)

def playS (st : Sta) (l : List RecT) : Sta := l.foldl (fun st x => (st.doS x).2) st
theorem playS_snoc (st : Sta) (l : List RecT) (x : RecT) : playS st (l ++ [x]) = ((playS st l).doS x).2 := by unfold playS; rw [List.foldl_append]; rfl
/-- What is below L stays; the state and the plain one are apart; the plain one's box is at B. -/
structure Pair (L B : Nat) (G : Heap) (a : SaA) (v : RfV) (st st2 : Sta) : Prop where
  s : StAt G a st
  r : RfAt G v st2
  b : G[B]? = some (.cells (vC v) .exact)
  lb : L ≤ B
  off : ∀ b, a.fp st b → L ≤ b ∧ b ≠ B ∧ ¬ blkV v b
  ov : ∀ b, blkV v b → b ≠ B
section
variable {L B : Nat} {G G' : Heap} {a a' : SaA} {v v' : RfV} {st st' st2 st2' : Sta}
theorem Pair.rv (p : Pair L B G a v st st2) : rd G (.agg [.sl 3, .sl 3, .sl 1, .sl 2]) B 0 = (some v : Option RfV) := rd_agg_of p.b (by simp [vC]) rfl
theorem Pair.keep (p : Pair L B G a v st st2) (k : Keep (fun _ => False) G G') : Pair L B G' a v st st2 :=
  ⟨p.s.keep k fun _ _ hf => hf, p.r.keep k fun _ _ hf => hf, k.get p.b fun hf => hf, p.lb, p.off, p.ov⟩
theorem Pair.state (p : Pair L B G a v st st2) (r : Res G a st G' a' st') : Pair L B G' a' v st' st2 ∧ Keep (fun b => L ≤ b) G G' := by
  have hB := get_lt p.b
  refine ⟨⟨r.s, p.r.keep r.k fun b hb hf => (p.off b hf).2.2 hb, r.k.get p.b fun hf => (p.off B hf).2.1 rfl, p.lb, fun b hb => ?_, p.ov⟩, r.k.mono fun b hb => (p.off b hb).1⟩
  rcases r.n b hb with hh | hh
  · exact p.off b hh
  · have := p.lb
    exact ⟨by omega, by omega, fun hv => by have := p.r.lt hv; omega⟩
theorem Pair.plain (p : Pair L B G a v st st2) (r : RRes G v G' v' st2') : wr G' B 0 [.sl 3 v'.1, .sl 3 v'.2.1, .sl 1 v'.2.2.1, .sl 2 v'.2.2.2.1] = some (G'.set B (.cells (vC v') .exact)) ∧ Pair L B (G'.set B (.cells (vC v') .exact)) a v' st st2' ∧ Keep (fun b => L ≤ b) G (G'.set B (.cells (vC v') .exact)) := by
  have hB := get_lt p.b
  have hb' := r.k.get p.b fun hf => hf
  have kk : Keep (fun b => b = B) G' (G'.set B (.cells (vC v') .exact)) := Keep.set _ _ _ rfl
  have hov : ∀ b, blkV v' b → b ≠ B := fun b hb => (r.n b hb).elim (p.ov b) fun hh => by omega
  refine ⟨by rw [wr_of hb' (by decide) (by simp [vC])]; rfl, ⟨(p.s.keep r.k fun _ _ hf => hf).keep kk fun b hb e => (p.off b hb).2.1 e, r.s.keep kk fun b hb e => hov b hb e, set_get (get_lt hb'), p.lb, fun b hb => ⟨(p.off b hb).1, (p.off b hb).2.1, fun hv => ?_⟩, hov⟩, (r.k.mono fun _ hf => hf.elim).trans (kk.mono fun b e => by have := p.lb; omega)⟩
  rcases r.n b hv with hh | hh
  · exact (p.off b hb).2.2 hh
  · have := p.s.lt hb
    omega
/-- A record of a row. -/
theorem row_rec {x0 : Sl} {rows : List RecT} (hr : Row G 6 x0 (rowsOf ctR rows)) {i : Nat} (hi : i < rows.length) : ∃ b o, Sl.at 6 x0 (i : Int) = some (b, o) ∧ ∀ {K : Heap}, Row K 6 x0 (rowsOf ctR rows) → rd K (.agg [.int .i64, .int .i64, .int .i64, .int .i64, .int .i64, .int .i64]) b o = (some rows[i] : Option RecT) ∧
    rdI .i64 K b (o + 1) = some rows[i].2.1 ∧ rdI .i64 K b (o + 2) = some rows[i].2.2.1 := by
  obtain ⟨b, o, e1, _⟩ := Row.rd (cts := ctR) hr (i := i) hi (by decide)
  have e1 : Sl.at 6 x0 (i : Int) = some (b, o) := e1
  refine ⟨b, o, e1, fun {K} hk => ?_⟩
  obtain ⟨b1, o1, e2, e3, _⟩ := Row.rd (cts := ctR) hk (i := i) hi (by decide)
  have e2 : Sl.at 6 x0 (i : Int) = some (b1, o1) := e2
  obtain ⟨b2, o2, e4, e5⟩ := row_int (cts := ctR) hk hi (by decide) (j := 1) (n := rows[i].2.1) (by decide) rfl
  have e4 : Sl.at 6 x0 (i : Int) = some (b2, o2) := e4
  obtain ⟨b3, o3, e6, e7⟩ := row_int (cts := ctR) hk hi (by decide) (j := 2) (n := rows[i].2.2.1) (by decide) rfl
  have e6 : Sl.at 6 x0 (i : Int) = some (b3, o3) := e6
  rw [e1] at e2 e4 e6
  cases e2
  cases e4
  cases e6
  exact ⟨e3, e5, e7⟩
theorem Row.low {x0 : Sl} {row : List C} {es : Nat} (hr : Row G es x0 row) (hlow : ∀ b o, x0.p = some (b, o) → b < L) (k : Keep (fun b => L ≤ b) G G') : Row G' es x0 row := hr.keep k fun b o hp hh => by have := hlow b o hp; omega
end
end Ev

namespace Ev
open Go (IntKind)

/-- What holds of a state that records have made. -/
structure SaX (st : Sta) : Prop where
  q : ∀ id y, afind st.sp id = some y → 1 ≤ y.1
  lv : ∀ k v, afind st.lv k = some v → 0 ≤ v ∧ v ≤ 511 ∧ ∀ y, afind st.sp (k / 1024) = some y → k % 1024 < y.1
  wn : ∀ k v, afind st.wn k = some v → 0 ≤ v ∧ v ≤ 1073741824
theorem SaX.nil : SaX ⟨[], [], [], []⟩ := ⟨fun id y h => (by cases h), fun k v h => (by cases h), fun k v h => (by cases h)⟩
section
variable {st : Sta} {x : RecT}
theorem SaW.has (w : SaW st) {k v : Int} (h : afind st.lv k = some v) : ∃ y, afind st.sp (k / 1024) = some y := Option.isSome_iff_exists.1 (w.own (k, v) (afind_mem h))
theorem SaX.spi (w : SaW st) (h : SaX st) {id q : Int} {b : Bool} (hq : 1 ≤ q) (hk : ∀ k v, afind st.lv k = some v → k / 1024 = id → k % 1024 < q) : SaX ⟨ains st.sp id (q, b), st.lv, st.bd, st.wn⟩ :=
  ⟨fun id' y hy => by
    have hy : afind (ains st.sp id (q, b)) id' = some y := hy
    rw [afind_ins w.sp] at hy
    split at hy
    · cases hy; exact hq
    · exact h.q id' y hy,
   fun k v hv => ⟨(h.lv k v hv).1, (h.lv k v hv).2.1, fun y hy => by
    have hy : afind (ains st.sp id (q, b)) (k / 1024) = some y := hy
    rw [afind_ins w.sp] at hy
    split at hy
    · rename_i e
      cases hy; exact hk k v hv e
    · exact (h.lv k v hv).2.2 y hy⟩, h.wn⟩
theorem SaX.made (w : SaW st) (h : SaX st) {id q : Int} (hq : 1 ≤ q) {P : List (Int × Int)} (hP : Asc P) (hpq : ∀ p a, afind P p = some a → 0 ≤ p ∧ p < 1024 ∧ p < q ∧ 0 ≤ a ∧ a ≤ 511) (hn : afind st.sp id = none) : SaX ⟨ains st.sp id (q, false), insAll id st.lv P, st.bd, st.wn⟩ := by
  have h1 := SaX.spi w h (b := false) hq (id := id) fun k v hv e => by
    obtain ⟨y, hy⟩ := w.has hv
    rw [e, hn] at hy; cases hy
  refine ⟨h1.q, fun k v hv => ?_, h.wn⟩
  have hv : afind (insAll id st.lv P) k = some v := hv
  rw [insAll_find k w.lv hP] at hv
  cases hf : afind P (k - id * 1024) with
  | some u =>
    rw [hf] at hv
    cases hv
    have := hpq _ _ hf
    refine ⟨this.2.2.2.1, this.2.2.2.2, fun y hy => ?_⟩
    have hy : afind (ains st.sp id (q, false)) (k / 1024) = some y := hy
    rw [show k / 1024 = id by omega, afind_ins w.sp, if_pos rfl] at hy
    cases hy
    show k % 1024 < q
    omega
  | none =>
    rw [hf] at hv
    exact h1.lv k v hv
theorem SaX.doS (w : SaW st) (h : SaX st) (x : RecT) : SaX (st.doS x).2 := by
  unfold Sta.doS
  by_cases hc : chkR x = true
  · rw [if_pos hc]
    have g := hc
    unfold chkR at g
    unfold Sta.applyS
    by_cases k4 : x.1 = 4
    · rw [if_pos k4]
      simp only [k4, inAll, inB] at g
      simp at g
      unfold Sta.openS
      cases hf : afind st.sp x.2.1 with
      | some y => exact h
      | none => exact SaX.made w h (by omega) Asc.nil (fun p a hh => by cases hh) hf
    rw [if_neg k4]
    by_cases k3 : x.1 = 3
    · rw [if_pos k3]
      simp only [k3, inAll, inB] at g
      simp at g
      unfold Sta.moveS
      by_cases e1 : cnt st.lv x.2.2.2.1 = 0
      · rw [if_pos e1]; exact h
      rw [if_neg e1]
      by_cases e2 : 0 < cnt st.lv x.2.2.2.2.1
      · rw [if_pos e2]; exact h
      rw [if_neg e2]
      refine ⟨h.q, fun k v hv => ?_, h.wn⟩
      have hv : afind (mv x.2.2.2.1 x.2.2.2.2.1 st.lv) k = some v := hv
      rw [mv_find] at hv
      cases hf : afind st.lv k with
      | none => rw [hf] at hv; cases hv
      | some u =>
        rw [hf] at hv
        have hl := h.lv k u hf
        have hv : (if u = x.2.2.2.1 then x.2.2.2.2.1 else u) = v := Option.some.inj hv
        refine ⟨?_, ?_, hl.2.2⟩
        · split at hv <;> omega
        · split at hv <;> omega
    rw [if_neg k3]
    by_cases k8 : x.1 = 8
    · rw [if_pos k8]; exact ⟨h.q, h.lv, h.wn⟩
    rw [if_neg k8]
    by_cases k9 : x.1 = 9
    · rw [if_pos k9]
      simp only [k9, inAll, inB] at g
      simp at g
      refine ⟨h.q, h.lv, fun k v hv => ?_⟩
      have hv : afind (ains st.wn x.2.2.2.1 (if x.2.2.2.2.2.1 > (afind st.wn x.2.2.2.1).getD 0 then x.2.2.2.2.2.1 else (afind st.wn x.2.2.2.1).getD 0)) k = some v := hv
      rw [afind_ins w.wn] at hv
      split at hv
      · have hv := Option.some.inj hv
        have : 0 ≤ (afind st.wn x.2.2.2.1).getD 0 ∧ (afind st.wn x.2.2.2.1).getD 0 ≤ 1073741824 := by
          cases hf : afind st.wn x.2.2.2.1 with
          | none => decide
          | some u => exact h.wn _ _ hf
        split at hv <;> omega
      · exact h.wn k v hv
    rw [if_neg k9]
    cases hf : afind st.sp x.2.1 with
    | none => exact h
    | some s =>
      simp only
      by_cases k1 : x.1 = 1
      · rw [if_pos k1]
        simp only [k1, inAll, inB] at g
        simp at g
        by_cases e1 : x.2.2.1 < 0
        · rw [if_pos e1]; exact h
        rw [if_neg e1]
        by_cases e2 : s.1 ≤ x.2.2.1
        · rw [if_pos e2]; exact h
        rw [if_neg e2]
        refine ⟨h.q, fun k v hv => ?_, h.wn⟩
        have hv : afind (ains st.lv (x.2.1 * 1024 + x.2.2.1) x.2.2.2.1) k = some v := hv
        rw [afind_ins w.lv] at hv
        split at hv
        · rename_i e
          have hv := Option.some.inj hv
          refine ⟨by omega, by omega, fun y hy => ?_⟩
          have hy : afind st.sp (k / 1024) = some y := hy
          rw [show k / 1024 = x.2.1 by omega, hf] at hy
          cases hy
          omega
        · exact h.lv k v hv
      rw [if_neg k1]
      by_cases k2 : x.1 = 2
      · rw [if_pos k2]
        split
        · refine ⟨h.q, fun k v hv => ?_, h.wn⟩
          have hv : afind (adrop st.lv (x.2.1 * 1024 + x.2.2.1)) k = some v := hv
          rw [afind_drop w.lv] at hv
          split at hv
          · cases hv
          · exact h.lv k v hv
        · exact h
      rw [if_neg k2]
      by_cases k5 : x.1 = 5
      · rw [if_pos k5]
        refine ⟨fun id y hy => ?_, fun k v hv => ?_, h.wn⟩
        · have hy : afind (adrop st.sp x.2.1) id = some y := hy
          rw [afind_drop w.sp] at hy
          split at hy
          · cases hy
          · exact h.q id y hy
        · have hm := List.mem_filter.1 (afind_mem hv)
          have hl := h.lv k v (w.lv.find hm.1)
          refine ⟨hl.1, hl.2.1, fun y hy => ?_⟩
          have hy : afind (adrop st.sp x.2.1) (k / 1024) = some y := hy
          rw [afind_drop w.sp] at hy
          split at hy
          · cases hy
          · exact hl.2.2 y hy
      rw [if_neg k5]
      by_cases k6 : x.1 = 6
      · rw [if_pos k6]
        unfold Sta.openS
        cases hf2 : afind st.sp x.2.2.2.2.1 with
        | some y => exact h
        | none =>
          refine SaX.made w h (h.q _ _ hf) (pgs_asc w.lv _) (fun p a hp => ?_) hf2
          rw [pgs_find w.lv] at hp
          by_cases e : 0 ≤ p ∧ p < 1024
          · rw [if_pos e] at hp
            have hl := h.lv _ _ hp
            have := hl.2.2 s (by rw [(key_div x.2.1 p e.1 e.2).1]; exact hf)
            rw [(key_div x.2.1 p e.1 e.2).2] at this
            exact ⟨e.1, e.2, this, hl.1, hl.2.1⟩
          · rw [if_neg e] at hp; cases hp
      rw [if_neg k6]
      refine SaX.spi w h (h.q _ _ hf) fun k v hv e => (h.lv k v hv).2.2 s (by rw [e]; exact hf)
  · rw [if_neg hc]; exact h
end
theorem SaW.opened {st : Sta} (w : SaW st) {id q : Int} (hid : 1 ≤ id ∧ id ≤ 15) (hq : q ≤ 1024) {P : List (Int × Int)} (hP : Asc P) (hpb : ∀ p a, afind P p = some a → 0 ≤ p ∧ p < 1024) : SaW (st.openS id q P).2 := by
  unfold Sta.openS
  split
  · exact w
  · have w1 := w.spi hid hq false
    refine ⟨w1.sp, insAll_asc w.lv, w.bd, w.wn, fun y hy => ?_, w1.ids, w.bds, w.wns⟩
    have hf : afind (insAll id st.lv P) y.1 = some y.2 := (insAll_asc w.lv).find hy
    rw [insAll_find y.1 w.lv hP] at hf
    cases hg : afind P (y.1 - id * 1024) with
    | some u =>
      have := hpb _ _ hg
      show (afind (ains st.sp id (q, false)) (y.1 / 1024)).isSome = true
      rw [afind_ins w.sp, if_pos (by omega)]; rfl
    | none =>
      rw [hg] at hf
      exact w1.own y (afind_mem hf)
theorem SaW.doS {st : Sta} (w : SaW st) (x : RecT) : SaW (st.doS x).2 := by
  unfold Sta.doS
  by_cases hc : chkR x = true
  · rw [if_pos hc]
    have g := chk_good hc
    unfold Sta.applyS
    by_cases k4 : x.1 = 4
    · rw [if_pos k4]
      exact w.opened (g.k4 k4).1 (g.k4 k4).2 Asc.nil fun p a hh => by cases hh
    rw [if_neg k4]
    by_cases k3 : x.1 = 3
    · rw [if_pos k3]
      unfold Sta.moveS
      split
      · exact w
      · split
        · exact w
        · exact w.moved _ _
    rw [if_neg k3]
    by_cases k8 : x.1 = 8
    · rw [if_pos k8]; exact w.bd' (g.k8 k8)
    rw [if_neg k8]
    by_cases k9 : x.1 = 9
    · rw [if_pos k9]; exact w.wn' (g.k9 k9) _
    rw [if_neg k9]
    cases hf : afind st.sp x.2.1 with
    | none => exact w
    | some s =>
      have hids := w.ids _ (afind_mem hf)
      simp only
      by_cases k1 : x.1 = 1
      · rw [if_pos k1]
        by_cases e1 : x.2.2.1 < 0
        · rw [if_pos e1]; exact w
        rw [if_neg e1]
        by_cases e2 : s.1 ≤ x.2.2.1
        · rw [if_pos e2]; exact w
        rw [if_neg e2]
        exact w.key hf (by have := hids.2.2; simp only at this; omega) _
      rw [if_neg k1]
      by_cases k2 : x.1 = 2
      · rw [if_pos k2]
        split
        · exact w.less _
        · exact w
      rw [if_neg k2]
      by_cases k5 : x.1 = 5
      · rw [if_pos k5]; exact w.gone _
      rw [if_neg k5]
      by_cases k6 : x.1 = 6
      · rw [if_pos k6]
        exact w.opened (g.k6 k6) hids.2.2 (pgs_asc w.lv _) fun p a hp => by
          have := pgs_mem (afind_mem hp)
          exact ⟨this.1, this.2.1⟩
      rw [if_neg k6]
      exact w.spi ⟨hids.1, hids.2.1⟩ hids.2.2 true
  · rw [if_neg hc]; exact w
theorem playS_ok (l : List RecT) : ∀ {st : Sta}, SaX st → SaW st → SaX (playS st l) := by
  induction l with
  | nil => exact fun h _ => h
  | cons x l ih => exact fun h w => ih (h.doS w x) (w.doS x)
end Ev

namespace Ev
open Go (IntKind)

end Ev

namespace Ev
open Go (IntKind)

/-- What stands at a place: what the page says, its own number. -/
abbrev LfF := Int → Bytes × Int
section
variable {H G : Heap} {m : Nat} {pg : Int → Nat} {f f' : LfF} {st : Sta}
/-- May a space be changed? -/
def mayS (st : Sta) (id : Int) : Int := match afind st.sp id with | none => 80 | some x => if x.2 = true then 170 else 0
end
end Ev

namespace Ev
open Go (IntKind)

section
variable {H G : Heap} {m : Nat} {pg : Int → Nat} {f f' : LfF} {st : Sta}
theorem cnt_mem {lv : List (Int × Int)} {c : Int} (h : cnt lv c ≠ 0) : ∃ x ∈ lv, x.2 = c := by
  unfold cnt at h
  obtain ⟨x, hx⟩ := List.exists_mem_of_length_pos (Nat.pos_of_ne_zero h)
  have := List.mem_filter.1 hx
  exact ⟨x, this.1, by simpa using this.2⟩
theorem nodup_map_on {α : Type} {l : List Int} {g : Int → α} (h : l.Nodup) (hg : ∀ x ∈ l, ∀ y ∈ l, g x = g y → x = y) : (l.map g).Nodup := by
  unfold List.Nodup
  rw [List.pairwise_map]
  exact List.Pairwise.imp_of_mem (fun {a b} ha hb hne e => hne (hg a ha b hb e)) h
def fitS (st : Sta) (r : Int × Int × Int × Int × Unit) : Bool := decide ((st.lv.length : Int) ≤ r.2.1) && decide (((rfOf st.lv).length : Int) ≤ r.1)
end
end Ev

namespace Ev
open Go (IntKind)

end Ev

namespace Ev
open Go (IntKind)

/-- Pages at places of their own, from 1000 on; what they say. -/
structure Pln where
  st : Sta
  tx : List Bytes
/-- A transaction; how many changes were made. -/
structure Tx where
  p : Pln
  many : Nat
abbrev RoomT := Int × Int × Int × Int × Unit
def Tx.stepD (t : Tx) (x : RecT) (r : RoomT) : Int × Tx :=
  if 8 ≤ t.many then (171, t) else if ¬ (t.p.st.applyS x).1 = 0 then ((t.p.st.applyS x).1, t) else if fitS (t.p.st.applyS x).2 r = true then (0, ⟨⟨(t.p.st.applyS x).2, t.p.tx⟩, t.many + 1⟩) else (172, t)
def putR (t : Tx) (id p : Int) : RecT := (1, id, p, 1000 + (t.p.tx.length : Int), 0, 0, ())
def Tx.stepP (t : Tx) (id p : Int) (text : Bytes) (r : RoomT) : Int × Tx :=
  if 8 ≤ t.many then (171, t) else if ¬ (t.p.st.applyS (putR t id p)).1 = 0 then ((t.p.st.applyS (putR t id p)).1, t) else if fitS (t.p.st.applyS (putR t id p)).2 r = true then (0, ⟨⟨(t.p.st.applyS (putR t id p)).2, t.p.tx ++ [text]⟩, t.many + 1⟩) else (172, t)
def ownK (x : RecT) : Bool := decide (x.1 = 2 ∨ (4 ≤ x.1 ∧ x.1 ≤ 7))
def Tx.doS (t : Tx) (x : RecT) (r : RoomT) : Int × Tx :=
  if ownK x = true ∧ chkR x = true then (if x.1 = 2 ∧ mayS t.p.st x.2.1 ≠ 0 then (mayS t.p.st x.2.1, t) else t.stepD x r) else (1, t)
def Tx.putS (t : Tx) (id p : Int) (text : Bytes) (r : RoomT) (size : Int) : Int × Tx :=
  if size < (text.length : Int) then (173, t) else if mayS t.p.st id ≠ 0 then (mayS t.p.st id, t) else t.stepP id p text r
section
variable {p : Pln} {f : LfF} {n : Nat}
/-- Records that put no page bring no other place. -/
theorem applyS_vals {st : Sta} (w : SaW st) {x : RecT} (hk : x.1 = 2 ∨ (4 ≤ x.1 ∧ x.1 ≤ 7)) : ∀ y ∈ (st.applyS x).2.lv, ∃ z ∈ st.lv, z.2 = y.2 := by
  unfold Sta.applyS
  rw [if_neg (show ¬ x.1 = 3 by omega), if_neg (show ¬ x.1 = 8 by omega), if_neg (show ¬ x.1 = 9 by omega)]
  by_cases k4 : x.1 = 4
  · rw [if_pos k4]
    unfold Sta.openS
    split
    · exact fun y hy => ⟨y, hy, rfl⟩
    · exact fun y hy => ⟨y, hy, rfl⟩
  rw [if_neg k4]
  cases hf : afind st.sp x.2.1 with
  | none => exact fun y hy => ⟨y, hy, rfl⟩
  | some s =>
    simp only
    rw [if_neg (show ¬ x.1 = 1 by omega)]
    by_cases k2 : x.1 = 2
    · rw [if_pos k2]
      split
      · exact fun y hy => ⟨y, (adrop_sub _ _).subset hy, rfl⟩
      · exact fun y hy => ⟨y, hy, rfl⟩
    rw [if_neg k2]
    by_cases k5 : x.1 = 5
    · rw [if_pos k5]
      exact fun y hy => ⟨y, (List.mem_filter.1 hy).1, rfl⟩
    rw [if_neg k5]
    by_cases k6 : x.1 = 6
    · rw [if_pos k6]
      unfold Sta.openS
      split
      · exact fun y hy => ⟨y, hy, rfl⟩
      · intro y hy
        have hf : afind (insAll x.2.2.2.2.1 st.lv (pgs st.lv x.2.1)) y.1 = some y.2 := (insAll_asc w.lv).find hy
        rw [insAll_find y.1 w.lv (pgs_asc w.lv _)] at hf
        cases hg : afind (pgs st.lv x.2.1) (y.1 - x.2.2.2.2.1 * 1024) with
        | some u =>
          rw [hg] at hf
          cases hf
          exact ⟨_, (pgs_mem (afind_mem hg)).2.2, rfl⟩
        | none =>
          rw [hg] at hf
          exact ⟨_, afind_mem hf, rfl⟩
    rw [if_neg k6]
    exact fun y hy => ⟨y, hy, rfl⟩
end
structure MdA where
  nm : Nat
  np : Int → Nat
  om : Option Nat
  op : Int → Nat
  f : LfF
  n : Nat
end Ev

namespace Ev
open Go (IntKind)

end Ev

namespace Ev
open Go (IntKind)

section
variable {H G : Heap} {c : Nat} {a : MdA} {r : RoomT} {size many : Int} {now : Pln} {o : Option Tx} {t : Tx}
/-- What a page says. -/
def txtP (q : Pln) (v : Int) : Bytes := (q.tx[(v - 1000).toNat]?).getD []
end
end Ev

namespace Ev
open Go (IntKind)

abbrev P5 := Sl × Sl × Sl × Sl × Sl × Unit
abbrev P6 := Sl × Sl × Sl × Sl × Sl × Int × Unit
def p4 (v : P5) : RfV := (v.1, v.2.1, v.2.2.1, v.2.2.2.1, ())
def p5 (v : P6) : P5 := (v.1, v.2.1, v.2.2.1, v.2.2.2.1, v.2.2.2.2.1, ())
def v5C (v : P5) : List C := [.sl 3 v.1, .sl 3 v.2.1, .sl 1 v.2.2.1, .sl 2 v.2.2.2.1, .sl 1 v.2.2.2.2.1]
def v6C (v : P6) : List C := [.sl 3 v.1, .sl 3 v.2.1, .sl 1 v.2.2.1, .sl 2 v.2.2.2.1, .sl 1 v.2.2.2.2.1, .int .i64 v.2.2.2.2.2.1]
def blk5 (v : P5) (b : Nat) : Prop := blkV (p4 v) b ∨ ∃ o, v.2.2.2.2.1.p = some (b, o)
structure P5At (G : Heap) (v : P5) (q : Pln) : Prop where
  r : RfAt G (p4 v) q.st
  t : Row G 1 v.2.2.2.2.1 (q.tx.map C.str)
  tl : v.2.2.2.2.1.len = q.tx.length
structure P6At (G : Heap) (v : P6) (t : Tx) : Prop where
  p : P5At G (p5 v) t.p
  m : v.2.2.2.2.2.1 = (t.many : Int)
structure P5Res (H : Heap) (v : P5) (G : Heap) (v' : P5) (q' : Pln) : Prop where
  s : P5At G v' q'
  k : Keep (fun _ => False) H G
  n : ∀ b, blk5 v' b → blk5 v b ∨ H.length ≤ b
structure P6Res (H : Heap) (v : P6) (G : Heap) (v' : P6) (t' : Tx) : Prop where
  s : P6At G v' t'
  k : Keep (fun _ => False) H G
  n : ∀ b, blk5 (p5 v') b → blk5 (p5 v) b ∨ H.length ≤ b
section
variable {H G : Heap} {v v' v0 : P5} {w w' w0 : P6} {q q' : Pln} {t t' : Tx}
theorem P5At.keep (h : P5At H v q) {F : Nat → Prop} (k : Keep F H G) (hF : ∀ b, blk5 v b → ¬ F b) : P5At G v q :=
  ⟨h.r.keep k fun b hb => hF b (.inl hb), h.t.keep k fun b o hp => hF b (.inr ⟨o, hp⟩), h.tl⟩
theorem P6At.keep (h : P6At H w t) {F : Nat → Prop} (k : Keep F H G) (hF : ∀ b, blk5 (p5 w) b → ¬ F b) : P6At G w t := ⟨h.p.keep k hF, h.m⟩
theorem P5At.lt (h : P5At H v q) {b : Nat} (hb : blk5 v b) : b < H.length := by
  rcases hb with hb | ⟨o, hp⟩
  · exact h.r.lt hb
  · exact h.t.lt hp
theorem P5Res.refl (h : P5At H v q) : P5Res H v H v q := ⟨h, Keep.refl _ _, fun b hb => .inl hb⟩
theorem P6Res.refl (h : P6At H w t) : P6Res H w H w t := ⟨h, Keep.refl _ _, fun b hb => .inl hb⟩
theorem ret5 {B : Nat} (hs : P5At G v' q') (hk : Keep (fun _ => False) H G) (hB : H.length ≤ B) {cs : List C} (hb : G[B]? = some (.cells cs .exact)) (hl : cs.length = 5) (hn : ∀ b, blk5 v' b → (blk5 v0 b ∨ H.length ≤ b) ∧ b ≠ B) {e : Int}
    {Q : (P5 × Int × Unit) × Heap → Prop} (hQ : ∀ G', P5Res H v0 G' v' q' → Q ((v', e, ()), G')) :
    WP ((wr G B 0 [.sl 3 v'.1, .sl 3 v'.2.1, .sl 1 v'.2.2.1, .sl 2 v'.2.2.2.1, .sl 1 v'.2.2.2.2.1]).bind fun (H57 : Heap) => Option.bind (α := P5) (rd H57 (.agg [.sl 3, .sl 3, .sl 1, .sl 2, .sl 1]) B 0) fun v58 => some ((v58, e, ()), H57)) Q := by
  have hwr : wr G B 0 [.sl 3 v'.1, .sl 3 v'.2.1, .sl 1 v'.2.2.1, .sl 2 v'.2.2.2.1, .sl 1 v'.2.2.2.2.1] = some (G.set B (.cells (v5C v') .exact)) := by
    rw [wr_of hb (by decide) (by rw [hl]; exact Nat.le_refl 5)]
    obtain ⟨c0, c1, c2, c3, c4, rfl⟩ : ∃ c0 c1 c2 c3 c4, cs = [c0, c1, c2, c3, c4] := by
      match cs, hl with
      | [c0, c1, c2, c3, c4], _ => exact ⟨c0, c1, c2, c3, c4, rfl⟩
    rfl
  have hrd : rd (G.set B (.cells (v5C v') .exact)) (.agg [.sl 3, .sl 3, .sl 1, .sl 2, .sl 1]) B 0 = (some v' : Option P5) := rd_agg_of (set_get (get_lt hb)) (by simp [v5C]) rfl
  have kk : Keep (fun b => b = B) G (G.set B (.cells (v5C v') .exact)) := Keep.set _ _ _ rfl
  refine wp_to hwr (wp_to hrd (wp_some (hQ _ ⟨hs.keep kk fun b hbb e => (hn b hbb).2 e, ⟨by have := hk.len; simp only [List.length_set]; omega, fun b hbb _ => ?_⟩, fun b hbb => (hn b hbb).1⟩)))
  rw [set_get' (by omega)]
  exact hk.same b hbb fun hf => hf
theorem wr6 {B : Nat} {cs : List C} (hb : G[B]? = some (.cells cs .exact)) (hl : cs.length = 6) (w : P6) : wr G B 0 [.sl 3 w.1, .sl 3 w.2.1, .sl 1 w.2.2.1, .sl 2 w.2.2.2.1, .sl 1 w.2.2.2.2.1, .int .i64 w.2.2.2.2.2.1] = some (G.set B (.cells (v6C w) .exact)) := by
  rw [wr_of hb (by decide) (by rw [hl]; exact Nat.le_refl 6)]
  obtain ⟨c0, c1, c2, c3, c4, c5, rfl⟩ : ∃ c0 c1 c2 c3 c4 c5, cs = [c0, c1, c2, c3, c4, c5] := by
    match cs, hl with
    | [c0, c1, c2, c3, c4, c5], _ => exact ⟨c0, c1, c2, c3, c4, c5, rfl⟩
  rfl
theorem rd6 {B : Nat} (hb : G[B]? = some (.cells (v6C w) .exact)) : rd G (.agg [.sl 3, .sl 3, .sl 1, .sl 2, .sl 1, .int .i64]) B 0 = (some w : Option P6) := rd_agg_of hb (by simp [v6C]) rfl
theorem rd65 {B : Nat} (hb : G[B]? = some (.cells (v6C w) .exact)) : rd G (.agg [.sl 3, .sl 3, .sl 1, .sl 2, .sl 1]) B 0 = (some (p5 w) : Option P5) := rd_agg_of hb (by simp [v6C]) rfl
theorem rd64 {B : Nat} (hb : G[B]? = some (.cells (v6C w) .exact)) : rd G (.agg [.sl 3, .sl 3, .sl 1, .sl 2]) B 0 = (some (p4 (p5 w)) : Option RfV) := rd_agg_of hb (by simp [v6C]) rfl
theorem rd5 {B : Nat} (hb : G[B]? = some (.cells (v5C v) .exact)) : rd G (.agg [.sl 3, .sl 3, .sl 1, .sl 2, .sl 1]) B 0 = (some v : Option P5) := rd_agg_of hb (by simp [v5C]) rfl
theorem rd4 {u : RfV} {B : Nat} (hb : G[B]? = some (.cells (vC u) .exact)) : rd G (.agg [.sl 3, .sl 3, .sl 1, .sl 2]) B 0 = (some u : Option RfV) := rd_agg_of hb (by simp [vC]) rfl
theorem rd54 {B : Nat} (hb : G[B]? = some (.cells (v5C v) .exact)) : rd G (.agg [.sl 3, .sl 3, .sl 1, .sl 2]) B 0 = (some (p4 v) : Option RfV) := rd_agg_of hb (by simp [v5C]) rfl
/-- A result is laid into its box. -/
theorem P6Res.box {B : Nat} (hs : P6At G w' t') (hk : Keep (fun _ => False) H G) (hB : H.length ≤ B) (hn : ∀ b, blk5 (p5 w') b → (blk5 (p5 w0) b ∨ H.length ≤ b) ∧ b ≠ B) (x : Blk) : P6Res H w0 (G.set B x) w' t' := by
  have kk : Keep (fun b => b = B) G (G.set B x) := Keep.set _ _ _ rfl
  refine ⟨hs.keep kk fun b hbb e => (hn b hbb).2 e, ⟨by have := hk.len; simp only [List.length_set]; omega, fun b hbb _ => ?_⟩, fun b hbb => (hn b hbb).1⟩
  rw [set_get' (by omega)]
  exact hk.same b hbb fun hf => hf
theorem ret6 {B : Nat} (hs : P6At G w' t') (hk : Keep (fun _ => False) H G) (hB : H.length ≤ B) {cs : List C} (hb : G[B]? = some (.cells cs .exact)) (hl : cs.length = 6) (hn : ∀ b, blk5 (p5 w') b → (blk5 (p5 w0) b ∨ H.length ≤ b) ∧ b ≠ B) {e : Int}
    {Q : (P6 × Int × Unit) × Heap → Prop} (hQ : ∀ G', P6Res H w0 G' w' t' → Q ((w', e, ()), G')) :
    WP ((wr G B 0 [.sl 3 w'.1, .sl 3 w'.2.1, .sl 1 w'.2.2.1, .sl 2 w'.2.2.2.1, .sl 1 w'.2.2.2.2.1, .int .i64 w'.2.2.2.2.2.1]).bind fun (H57 : Heap) => Option.bind (α := P6) (rd H57 (.agg [.sl 3, .sl 3, .sl 1, .sl 2, .sl 1, .int .i64]) B 0) fun v58 => some ((v58, e, ()), H57)) Q :=
  wp_to (wr6 hb hl w') (wp_to (rd6 (set_get (get_lt hb))) (wp_some (hQ _ (P6Res.box hs hk hB hn _))))
/-- Is there room? -/
theorem pl_fits (h : P5At H v q) (r : RoomT) : WP (ref16_Plain_Fits v r H) fun x => x.1.1 = fitS q.st r ∧ Keep (fun _ => False) H x.2 := by
  have k1 := Keep.app (fun _ => False) H [.cells (v5C v) .exact, .cells [.int .i64 r.1, .int .i64 r.2.1, .int .i64 r.2.2.1, .int .i64 r.2.2.2.1] .exact]
  have h1 := h.keep k1 fun _ _ hf => hf
  have t0 : (H ++ [Blk.cells (v5C v) .exact, .cells [.int .i64 r.1, .int .i64 r.2.1, .int .i64 r.2.2.1, .int .i64 r.2.2.2.1] .exact])[H.length]? = some (.cells (v5C v) .exact) := by rw [tl_get0]; rfl
  have t1 : (H ++ [Blk.cells (v5C v) .exact, .cells [.int .i64 r.1, .int .i64 r.2.1, .int .i64 r.2.2.1, .int .i64 r.2.2.2.1] .exact])[H.length + 1]? = some (.cells [.int .i64 r.1, .int .i64 r.2.1, .int .i64 r.2.2.1, .int .i64 r.2.2.2.1] .exact) := by rw [tl_get1]; rfl
  unfold ref16_Plain_Fits fitS
  simp only [List.append_assoc, List.cons_append, List.nil_append, List.length_append, List.length_cons, List.length_nil, Nat.zero_add]
  generalize hG : H ++ [Blk.cells [.sl 3 v.1, .sl 3 v.2.1, .sl 1 v.2.2.1, .sl 2 v.2.2.2.1, .sl 1 v.2.2.2.2.1] .exact, .cells [.int .i64 r.1, .int .i64 r.2.1, .int .i64 r.2.2.1, .int .i64 r.2.2.2.1] .exact] = H1
  have hG : H ++ [Blk.cells (v5C v) .exact, .cells [.int .i64 r.1, .int .i64 r.2.1, .int .i64 r.2.2.1, .int .i64 r.2.2.2.1] .exact] = H1 := hG
  rw [hG] at k1 h1 t0 t1
  have hlive := rf_live h1.r
  have k2 := Keep.app (fun _ => False) H1 [.cells (vC (p4 v)) .exact]
  have t0' := k2.get t0 fun hf => hf
  have t1' := k2.get t1 fun hf => hf
  refine wp_to (rd54 t0) (wp_to (rdI_of t1 (n := r.1) rfl) (wp_to hlive (wp_if (p := ((rfOf q.st.lv).length : Int) ≤ r.1) rfl (fun e => ?_) (fun e => ?_))))
  · refine wp_to (rdSl_of t0' (n := v.2.1) rfl) (wp_to (rdI_of t1' (n := r.2.1) rfl) (wp_to (rdI_of t1' (n := r.1) rfl) (wp_ite rfl (wp_some ⟨?_, k1.trans k2⟩))))
    rw [decide_eq_true e, Bool.and_true]
    have hl : v.2.1.len = q.st.lv.length := h.r.lvl
    show decide ((v.2.1.len : Int) ≤ r.2.1) = _
    rw [hl]
  · refine wp_to (rdI_of t1' (n := r.1) rfl) (wp_ite rfl (wp_some ⟨?_, k1.trans k2⟩))
    rw [decide_eq_false e, Bool.and_false]
def rstr (s : Bytes) : Tup [.str] := (s, ())
theorem str_rows : ∀ l : List Bytes, rowsOf [.str] (l.map rstr) = l.map C.str
  | [] => rfl
  | x :: l => by
    have := str_rows l
    unfold rowsOf at this ⊢
    rw [List.map_cons, List.map_cons, List.flatten_cons, this]; rfl
/-- What a page says, if it was put. -/
theorem pl_get (h : P5At H v q) (hat : ∀ x ∈ q.st.lv, x.2 < 1000 + (q.tx.length : Int)) (hlen : q.tx.length ≤ 100000) (id p : Int) : WP (ref16_Plain_Get v id p H) fun x => Keep (fun _ => False) H x.2 ∧ x.1 = (match afind (pgs q.st.lv id) p with | none => ([], false, ()) | some a => if a < 1000 then ([], false, ()) else (txtP q a, true, ())) := by
  have k1 := Keep.app (fun _ => False) H [.cells (v5C v) .exact]
  have h1 := h.keep k1 fun _ _ hf => hf
  have t0 : (H ++ [Blk.cells (v5C v) .exact])[H.length]? = some (.cells (v5C v) .exact) := by rw [tl_get0]; rfl
  obtain ⟨G, g1, g2⟩ := rf_get h1.r id p
  have t1 := g2.get t0 fun hf => hf
  have h2 := h1.keep g2 fun _ _ hf => hf
  unfold ref16_Plain_Get
  refine wp_to (rd54 t0) (wp_to g1 ?_)
  cases hf : afind (pgs q.st.lv id) p with
  | none => exact wp_t rfl (wp_some ⟨k1.trans g2, rfl⟩)
  | some a =>
    have hm := (pgs_mem (afind_mem hf)).2.2
    have ha := hat _ hm
    simp only at ha
    refine wp_f rfl (wp_if (p := a < 1000) rfl (fun e => ?_) (fun e => ?_))
    · simp only [if_pos e]
      exact wp_some ⟨k1.trans g2, rfl⟩
    · simp only [if_neg e]
      obtain ⟨i, hi, ei⟩ : ∃ i : Nat, i < q.tx.length ∧ a = 1000 + (i : Int) := ⟨(a - 1000).toNat, by omega, by omega⟩
      have hwi : IntKind.wrap .i64 (a - 1000) = (i : Int) := by rw [wrap_i64 (by omega) (by omega)]; omega
      have hsl : rdSl 1 G H.length 4 = some v.2.2.2.2.1 := rdSl_of t1 rfl
      have hrow : Row G ([.str] : List CT).length v.2.2.2.2.1 (rowsOf [.str] (q.tx.map rstr)) := by rw [str_rows]; exact h2.t
      have hml : (q.tx.map rstr).length = q.tx.length := List.length_map _
      obtain ⟨b0, o0, r1, r2, _, cs, bk, r3, r4, r5⟩ := hrow.rd (i := i) (by omega) (by decide)
      have r1 : Sl.at 1 v.2.2.2.2.1 (i : Int) = some (b0, o0) := r1
      have hx : (q.tx.map rstr)[i]'(by omega) = rstr q.tx[i] := List.getElem_map _
      have r6 : rdS G b0 o0 = some q.tx[i] := by
        refine rdS_of r3 ?_
        have := congrArg (fun l => l[0]?) r5
        rw [hx] at this
        simp only [List.getElem?_take, List.getElem?_drop] at this
        have h2 : cs[o0]? = (Tup.mk [.str] (rstr q.tx[i]))[0]? := by simpa using this
        exact h2
      have etx : txtP q a = q.tx[i] := by
        unfold txtP
        rw [show (a - 1000).toNat = i by omega, List.getElem?_eq_getElem hi]; rfl
      refine wp_to hsl (wp_f (decide_eq_false (by rw [h2.tl, show IntKind.wrap .i64 ((some a : Option Int).getD 0 - 1000) = (i : Int) from hwi]; omega)) (wp_to hsl ?_))
      rw [show IntKind.wrap .i64 ((some a : Option Int).getD 0 - 1000) = (i : Int) from hwi]
      refine wp_to r1 (wp_to r6 (wp_some ⟨k1.trans g2, ?_⟩))
      rw [etx]
end
end Ev

namespace Ev
open Go (IntKind)

section
variable {H G K : Heap} {v v' v0 : P5} {w w' w0 : P6} {q q' : Pln} {t t' : Tx}
/-- All of a row, put behind nothing. -/
theorem app_all {b : Nat} {cs : List C} {n : Nat} (hb : K[b]? = some (.cells [] .exact)) (hn : cs.length = n) (hl : n ≤ 100000) : ∃ s' G', appS K 1 16 ⟨some (b, 0), 0, 0⟩ n cs = some (s', G') ∧ Em K ⟨some (b, 0), 0, 0⟩ 1 G' s' cs ∧ s'.len = n := by
  have h0 : Grown K 1 ⟨some (b, 0), 0, 0⟩ [] := ⟨rfl, rfl, fun hh => (by cases hh), fun a ha => by cases ha; exact ⟨rfl, .inr hb⟩⟩
  cases n with
  | zero =>
    have e : cs = [] := List.length_eq_zero_iff.1 hn
    subst e
    exact ⟨_, K, rfl, Em.start h0, rfl⟩
  | succ n =>
    obtain ⟨e1, e2⟩ := h0.app (bytes := 16) (by decide) (n := n + 1) (new := cs) (by omega) (by omega) (by simp only; omega) (by simp only; omega)
    rw [List.nil_append] at e1 e2
    refine ⟨_, _, e1, ⟨e2, grownH_keep _ _ _, fun a ha => ?_⟩, by simp⟩
    cases ha
    exact .inl (Nat.le_refl _)
theorem pl_put (h : P5At H v q) (id p : Int) (text : Bytes) (hl : q.tx.length ≤ 90000) : WP (ref16_Plain_Put v id p text H) fun x => x.1.2.1 = (q.st.applyS (1, id, p, 1000 + (q.tx.length : Int), 0, 0, ())).1 ∧
    ∃ q', P5Res H v x.2 x.1.1 q' ∧ ((q.st.applyS (1, id, p, 1000 + (q.tx.length : Int), 0, 0, ())).1 = 0 → q' = ⟨(q.st.applyS (1, id, p, 1000 + (q.tx.length : Int), 0, 0, ())).2, q.tx ++ [text]⟩) := by
  have k1 := Keep.app (fun _ => False) H [.cells (v5C v) .exact, .cells [.sl 3 Sl.nil, .sl 3 Sl.nil, .sl 1 Sl.nil, .sl 2 Sl.nil, .sl 1 Sl.nil] .exact]
  have h1 := h.keep k1 fun _ _ hf => hf
  have t0 : (H ++ [Blk.cells (v5C v) .exact, .cells [.sl 3 Sl.nil, .sl 3 Sl.nil, .sl 1 Sl.nil, .sl 2 Sl.nil, .sl 1 Sl.nil] .exact])[H.length]? = some (.cells (v5C v) .exact) := by rw [tl_get0]; rfl
  have t1 : (H ++ [Blk.cells (v5C v) .exact, .cells [.sl 3 Sl.nil, .sl 3 Sl.nil, .sl 1 Sl.nil, .sl 2 Sl.nil, .sl 1 Sl.nil] .exact])[H.length + 1]? = some (.cells [.sl 3 Sl.nil, .sl 3 Sl.nil, .sl 1 Sl.nil, .sl 2 Sl.nil, .sl 1 Sl.nil] .exact) := by rw [tl_get1]; rfl
  have hout : ∀ b, blk5 v b → b < H.length := fun b hb => h.lt hb
  unfold ref16_Plain_Put
  simp only [List.append_assoc, List.cons_append, List.nil_append, List.length_append, List.length_cons, List.length_nil, Nat.zero_add]
  generalize hG : H ++ [Blk.cells [.sl 3 v.1, .sl 3 v.2.1, .sl 1 v.2.2.1, .sl 2 v.2.2.2.1, .sl 1 v.2.2.2.2.1] .exact, .cells [.sl 3 Sl.nil, .sl 3 Sl.nil, .sl 1 Sl.nil, .sl 2 Sl.nil, .sl 1 Sl.nil] .exact] = H1
  have hG : H ++ [Blk.cells (v5C v) .exact, .cells [.sl 3 Sl.nil, .sl 3 Sl.nil, .sl 1 Sl.nil, .sl 2 Sl.nil, .sl 1 Sl.nil] .exact] = H1 := hG
  rw [hG] at k1 h1 t0 t1
  have hwl : IntKind.wrap .i64 (1000 + (v.2.2.2.2.1.len : Int)) = 1000 + (q.tx.length : Int) := by rw [h.tl, wrap_i64 (by omega) (by omega)]
  refine wp_to (rd54 t0) (wp_to (rdSl_of t0 (n := v.2.2.2.2.1) rfl) ?_)
  rw [hwl]
  refine wp_seq _ (rf_Do h1.r (x := (1, id, p, 1000 + (q.tx.length : Int), 0, 0, ())) (fun hh => absurd rfl hh) (fun hh => by simp at hh)) ?_
  rintro ⟨⟨u, e, ⟨⟩⟩, G⟩ ⟨he, hr⟩
  have he : e = (q.st.applyS (1, id, p, 1000 + (q.tx.length : Int), 0, 0, ())).1 := he
  have hr : RRes H1 (p4 v) G u (q.st.applyS (1, id, p, 1000 + (q.tx.length : Int), 0, 0, ())).2 := hr
  have hkG : Keep (fun _ => False) H1 G := hr.k
  have hw7 : wr (G ++ [Blk.cells [.sl 3 Sl.nil, .sl 3 Sl.nil, .sl 1 Sl.nil, .sl 2 Sl.nil] .exact]) G.length 0 [.sl 3 u.1, .sl 3 u.2.1, .sl 1 u.2.2.1, .sl 2 u.2.2.2.1] = some (G ++ [.cells (vC u) .exact]) := by
    rw [wr_t0, wr_c0 _ _ _ _ (by simp)]; rfl
  have k7 := Keep.app (fun _ => False) G [.cells (vC u) .exact]
  have k17 := hkG.trans k7
  have h7 := h1.keep k17 fun _ _ hf => hf
  have t07 := k17.get t0 fun hf => hf
  have t17 := k17.get t1 fun hf => hf
  have u7 : (G ++ [Blk.cells (vC u) .exact])[G.length]? = some (.cells (vC u) .exact) := by rw [tl_get0]; rfl
  have hu7 := hr.s.keep k7 fun _ _ hf => hf
  have hl1 := get_lt t1
  have hgl := hkG.len
  have hun : ∀ b, blkV u b → (blk5 v b ∨ H.length + 2 ≤ b) ∧ b < G.length := fun b hb => ⟨(hr.n b hb).elim (fun hh => .inl (.inl hh)) fun hh => .inr (by omega), hr.s.lt hb⟩
  refine wp_to hw7 (wp_if (p := ¬ e = 0) (by simp) (fun e0 => ?_) (fun e0 => ?_))
  · refine wp_to (rd5 t07) (ret5 (v0 := v) h7 (k1.trans k17) (by omega) t17 rfl (fun b hb => ⟨.inl hb, by have := hout b hb; omega⟩) fun G' hr' => ⟨he, q, hr', fun hz => absurd (he.trans hz) e0⟩)
  · have e0' : e = 0 := Decidable.byContradiction e0
    refine wp_to (rd4 u7) ?_
    simp only [List.append_assoc, List.cons_append, List.nil_append, List.length_append, List.length_cons, List.length_nil, Nat.zero_add]
    have k14 := Keep.app (fun _ => False) (G ++ [Blk.cells (vC u) .exact]) [.cells [] .exact, .cells [.str text] .exact]
    have k12 := Keep.app (fun _ => False) (G ++ [Blk.cells (vC u) .exact]) [.cells [] .exact]
    have e14 : G ++ [Blk.cells (vC u) .exact] ++ [.cells [] .exact, .cells [.str text] .exact] = G ++ [Blk.cells (vC u) .exact, .cells [] .exact, .cells [.str text] .exact] := by simp
    have e12 : G ++ [Blk.cells (vC u) .exact] ++ [.cells [] .exact] = G ++ [Blk.cells (vC u) .exact, .cells [] .exact] := by simp
    rw [e14] at k14
    rw [e12] at k12
    have t012 := k12.get t07 fun hf => hf
    have h14 := h7.keep k14 fun _ _ hf => hf
    have t114 := k14.get t17 fun hf => hf
    have u14 := k14.get u7 fun hf => hf
    have hu14 := hu7.keep k14 fun _ _ hf => hf
    have x14 : (G ++ [Blk.cells (vC u) .exact, .cells [] .exact, .cells [.str text] .exact])[G.length + 2]? = some (.cells [.str text] .exact) := by rw [tl_get1]; rfl
    have b14 : (G ++ [Blk.cells (vC u) .exact, .cells [] .exact, .cells [.str text] .exact])[G.length + 1]? = some (.cells [] .exact) := by rw [tl_get1]; rfl
    have l14 : (G ++ [Blk.cells (vC u) .exact, .cells [] .exact, .cells [.str text] .exact]).length = G.length + 3 := by simp
    obtain ⟨s', G', a1, a2, a3⟩ := app_all (cs := q.tx.map C.str) (n := v.2.2.2.2.1.len) b14 (by rw [List.length_map, h.tl]) (by rw [h.tl]; omega)
    generalize G ++ [Blk.cells (vC u) .exact, .cells [] .exact, .cells [.str text] .exact] = H14 at k14 h14 t114 u14 x14 b14 l14 hu14 a1 a2 ⊢
    have hne : ∀ b, b ≠ G.length + 1 → ∀ o, (⟨some (G.length + 1, 0), 0, 0⟩ : Sl).p ≠ some (b, o) := fun b hb o hp => by cases hp; exact hb rfl
    have u16 := a2.get u14 (hne _ (by omega))
    have x16 := a2.get x14 (hne _ (by omega))
    have hnx : ∀ o, s'.p ≠ some (G.length + 2, o) := fun o hp => by
      rcases a2.o _ hp with hh | ⟨o', hh⟩
      · simp only at hh; omega
      · exact hne _ (by omega) o' hh
    obtain ⟨s2, G2, c1, c2, c3, c4, c5⟩ := a2.app (bytes := 16) (by decide) (new := [.str text]) rfl (by rw [a3, h.tl]; omega) (by rw [a3, h.tl]; omega)
    have u19 := c2.get u14 (hne _ (by omega))
    have t119 := c2.get t114 (hne _ (by omega))
    have hsl16 : slRow G' 1 ⟨some (G.length + 2, 0), 1, 1⟩ = some [.str text] := by
      simp only [slRow, Heap.row, x16]
      rfl
    refine wp_to (rdSl_of t012 (n := v.2.2.2.2.1) rfl) (wp_to h14.t.row (wp_to a1 ?_))
    refine wp_to (rd4 u16) (wp_ite rfl (wp_ite x16 (wp_to hsl16 (wp_to c1 (wp_to (rd4 u19) (wp_ite rfl ?_))))))
    have hu19 : RfAt G2 u (q.st.applyS (1, id, p, 1000 + (q.tx.length : Int), 0, 0, ())).2 := hu14.keep c2.k fun b hb ⟨o, ho⟩ => by
      have := (hun b hb).2
      cases ho
      omega
    have h14l := k14.len
    have hk19 : Keep (fun _ => False) H G2 := ⟨by have := (k1.trans k17).len; have := c2.k.len; omega, fun b hb _ => by
      rw [c2.k.same b (by have := (k1.trans k17).len; omega) fun ⟨o, ho⟩ => by cases ho; omega]
      exact ((k1.trans k17).trans k14).same b hb fun hf => hf⟩
    have hs2 : ∀ b o, s2.p = some (b, o) → G.length ≤ b := fun b o hp => by
      rcases c2.o _ hp with hh | ⟨o', hh⟩
      · simp only at hh; omega
      · have hh : some (G.length + 1, 0) = some (b, o') := hh
        injection hh with hh
        injection hh with h1 h2
        omega
    refine ret5 (v' := (u.1, u.2.1, u.2.2.1, u.2.2.2.1, s2, ())) (q' := ⟨(q.st.applyS (1, id, p, 1000 + (q.tx.length : Int), 0, 0, ())).2, q.tx ++ [text]⟩) (v0 := v) ⟨hu19, ?_, ?_⟩ hk19 (by omega) t119 rfl (fun b hb => ?_) fun G' hr' => ⟨e0'.symm.trans he, _, hr', fun _ => rfl⟩
    · rw [List.map_append]; exact Row.grown c2.g
    · show s2.len = (q.tx ++ [text]).length
      rw [c3, a3, h.tl]; simp
    · rcases hb with hb | ⟨o, hp⟩
      · have := hun b hb
        exact ⟨this.1.imp_right fun hh => by omega, by rcases this.1 with hh | hh
                                                       · have := hout b hh; omega
                                                       · omega⟩
      · have := hs2 b o hp
        exact ⟨.inr (by omega), by omega⟩
end
end Ev

