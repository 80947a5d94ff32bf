/- The writer: a new one. -/
import Derived.Test.YtloijdlakkmjgaaSWriteR
namespace Ev
open Go (IntKind)

theorem clone_B {H : Heap} {s : Sl} {row : List C} (h : Row H 1 s row) (h0 : 0 < s.len) (hl : s.len ≤ 1099511627776) : ∃ k H' bk, slices_Clone_int_int s H = some ((⟨some (k, 0), s.len, s.len⟩, ()), H') ∧ H.length ≤ k ∧ bk ≠ .ro ∧ H'[k]? = some (.cells row bk) ∧ Keep (fun _ => False) H H' := by
  unfold slices_Clone_int_int
  cases hp : s.p with
  | none => have := h.nil hp; omega
  | some a =>
    have hr := (h.push (Blk.cells [] .exact)).row
    simp only [Option.isNone_some, cond_f, hr, bind_some]
    have hg : Grown (H ++ [.cells [] .exact]) 1 ⟨some (H.length, 0), 0, 0⟩ [] := ⟨rfl, rfl, fun _ => rfl, fun a ha => by cases ha; exact ⟨rfl, .inr app_last⟩⟩
    obtain ⟨a1, a2⟩ := hg.app (bytes := 8) (by decide) (n := s.len) (new := row) (by omega) h.len (by simp; omega) (by simp; omega)
    simp only [Nat.zero_add, List.nil_append] at a1 a2
    have hb := (a2.blk _ rfl).2
    have kk : Keep (fun _ => False) H (grownH (H ++ [.cells [] .exact]) ⟨some (H.length, 0), 0, 0⟩ row) := ⟨by rw [grownH_length]; simp; omega, fun k hk _ => by rw [grownH_get (by simp; omega) (fun a ha => by cases ha; simp; omega), app_lt hk]⟩
    rcases hb with hb | hb
    · exact ⟨(H ++ [Blk.cells [] .exact]).length, _, .loose, by rw [a1]; rfl, by simp, by decide, hb, kk⟩
    · exact ⟨(H ++ [Blk.cells [] .exact]).length, _, .exact, by rw [a1]; rfl, by simp, by decide, hb, kk⟩

/-- A new writer, of a chip and a life. -/
theorem write_new_eq {N : Nat → Prop} {H : Heap} {a : NdA} {e : LfA} {s : Nd} {f : Lf} {t : Sl} (hn : NdAt H a s) (hf : LfAt H e f) (ht : Row H 1 t (arrC e.B fun _ => [.int .i64 0])) (eB : e.B = a.B ∧ e.P = a.P) (hB : 0 < e.B) (hd : ∀ k, a.own k → ¬ e.fp k)
    (nN : ∀ k, a.own k ∨ e.fp k → ¬ N k) (NL : ∀ k, N k → k < H.length) :
    ∃ H' z, write_New (some (a.c, 0)) (some (e.c, 0)) t H = some ((some (z.w, 0), 0, ()), H') ∧ WrAt N H' z a e s ⟨f, fun _ => 0, []⟩ ⟨none, 0, 0⟩ ∧ Keep (fun _ => False) H H' := by
  have hsz := hf.sz
  have htl : t.len = e.B := by have := ht.len; rw [arrC_length (es := 1) (f := fun _ => [C.int .i64 0]) (fun _ => rfl)] at this; omega
  obtain ⟨G, g1, g2, g3⟩ := nand_geometry hn
  obtain ⟨k, R, bk, c1, c2, c3, c4, c5⟩ := clone_B (ht.keep g3 fun _ _ _ => id) (by omega) (by omega)
  have hN := g2.keep c5 fun _ _ => id
  have hF := (hf.keep g3 fun _ _ => id).keep c5 fun _ _ => id
  have hl1 := g3.len
  have hl2 := c5.len
  have hk := get_lt c4
  refine ⟨R ++ [.cells [.ptr (some (a.c, 0)), .ptr (some (e.c, 0)), .sl 1 ⟨some (k, 0), e.B, e.B⟩, .sl 1 ⟨none, 0, 0⟩] .exact], ⟨R.length, k⟩, ?_, ?_, (g3.trans c5).trans (Keep.push _ _ _)⟩
  · unfold write_New
    rw [htl] at c1
    simp only [g1, bind_some, decide_eq_false (show ¬ (a.B : Int) = 0 by omega), cond_f, Option.isNone_some, htl, decide_eq_true (show (e.B : Int) = (a.B : Int) by omega), Bool.not_true, c1]
  · have oa : ∀ j, a.own j → j < H.length := fun j hj => hn.own_lt hj
    have oe : ∀ j, e.fp j → j < H.length := fun j hj => hf.lt hj
    exact { nd := hN.push _, lf := hF.keep (Keep.push (fun _ => False) _ _) fun _ _ => id, cell := app_last, worn := ⟨bk, c3, by rw [app_lt hk]; exact c4⟩, bads := Grown.ni _ 1, eB := eB,
            d1 := fun j hj => ⟨hd j hj, by have := oa j hj; show j ≠ R.length; omega, by have := oa j hj; show j ≠ k; omega, fun o ho => (by cases ho)⟩,
            d2 := fun j hj => ⟨by have := oe j hj; show j ≠ R.length; omega, by have := oe j hj; show j ≠ k; omega, fun o ho => (by cases ho)⟩,
            d3 := ⟨by show R.length ≠ k; omega, fun o ho => (by cases ho), fun o ho => (by cases ho)⟩,
            NL := fun j hm => by have := NL j hm; simp; omega,
            nN := fun j hj hm => by
              have := NL j hm
              rcases hj with hj | hj | hj | hj | ⟨o, ho⟩
              · exact nN j (.inl hj) hm
              · exact nN j (.inr hj) hm
              · have : j = R.length := hj
                omega
              · have : j = k := hj
                omega
              · cases ho }
end Ev
