/- A state, copied. -/
import Derived.Test.YtfmefnejaocopaaSClo
import Derived.Test.YtfmefnejaocopaaSStG
set_option linter.unusedSimpArgs false
set_option linter.unusedVariables false
namespace Ev
open Go (IntKind)

section
variable {H : Heap} {a : SaA} {st : Sta}
theorem st_copy (h : StAt H a st) : ∃ G a', state_State_Copy (some (a.c, 0)) H = some ((some (a'.c, 0), ()), G) ∧ StAt G a' st ∧ Keep (fun _ => False) H G ∧ ∀ b, a'.fp st b → H.length ≤ b := by
  have hnd := h.nd
  have h1 := h.push (.mp [] 0)
  have hc1 := h1.rf.clone
  have h2 := h1.push (.mp (encA inW (rfOf st.lv)) 0)
  have hc2 := h2.bd.clone
  have h3 := h2.push (.mp (encA boW st.bd) 0)
  have hc3 := h3.wn.clone
  have h4 := h3.push (.mp (encA inW st.wn) 0)
  have h5 := (h4.push (.cells [.mp (some H.length), .mp (some (H.length + 1)), .mp (some (H.length + 2)), .mp (some (H.length + 3))] .exact)).push .dead
  have hrd1 := h2.r2
  have hrd2 := h2.r3
  have hrd3 := h3.r3
  have hr0 := (h4.push (.cells [.mp (some H.length), .mp (some (H.length + 1)), .mp (some (H.length + 2)), .mp (some (H.length + 3))] .exact)).r0
  have hl4 : (H ++ [Blk.mp [] 0] ++ [Blk.mp (encA inW (rfOf st.lv)) 0] ++ [Blk.mp (encA boW st.bd) 0] ++ [Blk.mp (encA inW st.wn) 0]).length = H.length + 4 := by simp
  generalize hH5 : H ++ [Blk.mp [] 0] ++ [.mp (encA inW (rfOf st.lv)) 0] ++ [.mp (encA boW st.bd) 0] ++ [.mp (encA inW st.wn) 0] ++ [.cells [.mp (some H.length), .mp (some (H.length + 1)), .mp (some (H.length + 2)), .mp (some (H.length + 3))] .exact] ++ [.dead] = H5 at h5
  have hH5' : H5 = H ++ [.mp [] 0, .mp (encA inW (rfOf st.lv)) 0, .mp (encA boW st.bd) 0, .mp (encA inW st.wn) 0, .cells [.mp (some H.length), .mp (some (H.length + 1)), .mp (some (H.length + 2)), .mp (some (H.length + 3))] .exact, .dead] := by rw [← hH5]; simp
  have k5 : Keep (fun _ => False) H H5 := by rw [hH5']; exact Keep.app _ _ _
  have l5 : H5.length = H.length + 6 := by rw [hH5']; simp
  have g0 : H5[H.length]? = some (.mp [] 0) := by rw [hH5', tl_get0]; rfl
  have g1 : H5[H.length + 1]? = some (.mp (encA inW (rfOf st.lv)) 0) := by rw [hH5', tl_get1]; rfl
  have g2 : H5[H.length + 2]? = some (.mp (encA boW st.bd) 0) := by rw [hH5', tl_get1]; rfl
  have g3 : H5[H.length + 3]? = some (.mp (encA inW st.wn) 0) := by rw [hH5', tl_get1]; rfl
  have g4 : H5[H.length + 4]? = some (.cells [.mp (some H.length), .mp (some (H.length + 1)), .mp (some (H.length + 2)), .mp (some (H.length + 3))] .exact) := by rw [hH5', tl_get1]; rfl
  have hsl := h.sp.lt
  obtain ⟨G, pg', e1, e2, e3, e4, e5, e6⟩ := clone_loop (g := inW) (fun _ _ _ => rfl) h.w.sp (P := fun id => pgs st.lv id) h5.sp h5.pg g0 (show a.sp ≠ H.length by omega) (fun id x hx => by have := (h.pg id x hx).lt; omega)
    (step := state_State_Copy.s1 ((some (H.length + 3), ()), H ++ [.mp [] 0] ++ [.mp (encA inW (rfOf st.lv)) 0] ++ [.mp (encA boW st.bd) 0] ++ [.mp (encA inW st.wn) 0]) (some a.sp))
    (fun k x G hx hm hp hlow hlen => by
      have hm1 : mat G (.agg [.int .i64, .bool, .mp]) (some a.sp) k = (some (x.1, x.2, some (a.pg k), ()) : Option (Int × Bool × Option Nat × Unit)) := hm.mat (.agg [.int .i64, .bool, .mp]) k (by rw [hx]; rfl)
      have hcl := (hp.keep (F := fun _ => False) (Keep.push _ G (.cells [.int .i64 x.1, .bool x.2, .mp (some (a.pg k))] .exact)) fun hf => hf).clone
      have hbx : rdM (G ++ [.cells [.int .i64 x.1, .bool x.2, .mp (some (G.length + 1))] .exact, .mp (encA inW (pgs st.lv k)) 0]) (H.length + 4) 0 = some (some H.length) := by
        refine rdM_of (cs := [.mp (some H.length), .mp (some (H.length + 1)), .mp (some (H.length + 2)), .mp (some (H.length + 3))]) (bk := .exact) ?_ rfl
        rw [List.getElem?_append_left (by omega), hlow _ (by omega) (by omega)]; exact g4
      unfold state_State_Copy.s1
      refine (bind_to hm1).trans ?_
      simp only [Option.bind_some, Option.map_some, cond_true, cond_false, List.append_assoc, List.cons_append, List.nil_append, List.length_append, List.length_cons, List.length_nil, Nat.zero_add, rd_t0, rd_t1, rdI_t0, rdI_t1, rdB_t0, rdB_t1, rdM_t0, rdM_t1, rd_c1, rdI_c1, rdB_c1, rdM_c1, rdI_c0, rdB_c0, rdM_c0, wr_t0, wr_t1, wr_c0, wr_c1, setL, List.set, List.getElem?_cons_zero, List.getElem?_cons_succ, un_i, un_b, un_m, un_s, Nat.le_refl, rd_iiib, rd_iiiiii, rd_ibm, rd_iii, rd_iib, rd_ii, rd_3312, rd_iiii, rd_si, rd_33121, rd_33121i, slRow_t0, slRow_t1, sl_c0, sl_c1] at hcl ⊢
      simp only [hcl, Option.bind_some, Option.map_some, cond_true, cond_false, List.append_assoc, List.cons_append, List.nil_append, List.length_append, List.length_cons, List.length_nil, Nat.zero_add, rd_t0, rd_t1, rdI_t0, rdI_t1, rdB_t0, rdB_t1, rdM_t0, rdM_t1, rd_c1, rdI_c1, rdB_c1, rdM_c1, rdI_c0, rdB_c0, rdM_c0, wr_t0, wr_t1, wr_c0, wr_c1, setL, List.set, List.getElem?_cons_zero, List.getElem?_cons_succ, un_i, un_b, un_m, un_s, Nat.le_refl, rd_iiib, rd_iiiiii, rd_ibm, rd_iii, rd_iib, rd_ii, rd_3312, rd_iiii, rd_si, rd_33121, rd_33121i, slRow_t0, slRow_t1, sl_c0, sl_c1, hl4, hbx])
  have kG : ∀ {b : Nat} {y : Blk}, H5[b]? = some y → b ≠ H.length → G[b]? = some y := fun hb hne => by rw [e2 _ (get_lt hb) hne]; exact hb
  have g1' := kG g1 (by omega)
  have g2' := kG g2 (by omega)
  have g3' := kG g3 (by omega)
  have g4' := kG g4 (by omega)
  refine ⟨G, ⟨H.length + 4, H.length, H.length + 1, H.length + 2, H.length + 3, pg'⟩, ?_, ⟨h.w, g4', e4, fun id x hx => (e5 id x hx).1, ⟨0, g1'⟩, ⟨0, g2'⟩, ⟨0, g3'⟩, by simp only; omega, fun id x hx => by have := (e5 id x hx).2; simp only; omega, e6⟩, ⟨by omega, fun b hb _ => by rw [e2 b (by omega) (by omega), k5.same b hb fun hf => hf]⟩, ?_⟩
  · unfold state_State_Copy
    have hc1' : mclone (some a.rf) (H ++ [.mp [] 0]) = some ((some (H.length + 1), ()), H ++ [.mp [] 0] ++ [.mp (encA inW (rfOf st.lv)) 0]) := by rw [hc1]; simp
    have hc2' : mclone (some a.bd) (H ++ [.mp [] 0] ++ [.mp (encA inW (rfOf st.lv)) 0]) = some ((some (H.length + 2), ()), H ++ [.mp [] 0] ++ [.mp (encA inW (rfOf st.lv)) 0] ++ [.mp (encA boW st.bd) 0]) := by rw [hc2]; simp
    have hc3' : mclone (some a.wn) (H ++ [.mp [] 0] ++ [.mp (encA inW (rfOf st.lv)) 0] ++ [.mp (encA boW st.bd) 0]) = some ((some (H.length + 3), ()), H ++ [.mp [] 0] ++ [.mp (encA inW (rfOf st.lv)) 0] ++ [.mp (encA boW st.bd) 0] ++ [.mp (encA inW st.wn) 0]) := by rw [hc3]; simp
    have t1 : (H ++ [Blk.mp [] 0] ++ [Blk.mp (encA inW (rfOf st.lv)) 0])[H.length]? = some (.mp [] 0) := by rw [List.append_assoc, tl_get0]; rfl
    have t2 : (H ++ [Blk.mp [] 0] ++ [Blk.mp (encA inW (rfOf st.lv)) 0] ++ [Blk.mp (encA boW st.bd) 0])[H.length]? = some (.mp [] 0) := by rw [List.append_assoc, List.append_assoc, tl_get0]; rfl
    have t3 : (H ++ [Blk.mp [] 0] ++ [Blk.mp (encA inW (rfOf st.lv)) 0] ++ [Blk.mp (encA boW st.bd) 0] ++ [Blk.mp (encA inW st.wn) 0] ++ [Blk.cells [.mp (some H.length), .mp (some (H.length + 1)), .mp (some (H.length + 2)), .mp (some (H.length + 3))] .exact])[H.length]? = some (.mp [] 0) := by rw [List.append_assoc, List.append_assoc, List.append_assoc, List.append_assoc, tl_get0]; rfl
    simp only [Option.isNone_some, cond_false, Option.bind_some, h1.r1, h1.r2, h1.r3, hc1', hrd1, hrd2, if_true, t1, hc2', t2, hrd3, hc3', t3, hr0]
    rw [hH5]
    refine (bind_to e1).trans ?_
    simp only [hl4]
  · rintro b (rfl | rfl | rfl | rfl | rfl | ⟨id, x, hx, rfl⟩)
    · simp only; omega
    · exact Nat.le_refl _
    · simp only; omega
    · simp only; omega
    · simp only; omega
    · have := (e5 id x hx).2
      simp only; omega
end
end Ev
