/- The state in the heap; what only reads it. -/
import Derived.Test.YtfmefnejaocopaaSSta
import Derived.Test.YtfmefnejaocopaaGState
import Derived.Test.YtfmefnejaocopaaSChk
import Derived.Test.YtfmefnejaocopaaUp
import Derived.Test.YtfmefnejaocopaaEa
import Derived.Test.YtfmefnejaocopaaTl
set_option linter.unusedSimpArgs false
set_option linter.unusedVariables false
namespace Ev
open Go (IntKind)

theorem rdM_of {H : Heap} {b o : Nat} {cs : List C} {bk : BK} {n : Option Nat} (h : H[b]? = some (.cells cs bk)) (hc : cs[o]? = some (.mp n)) : rdM H b o = some n := by
  show (H.cell b o).bind (CT.un .mp) = some n
  rw [cell_of h hc]; rfl

def inW (_ : Int) (v : Int) : W := .one (.int .i64 v)
def boW (_ : Int) (_ : Unit) : W := .one (.bool true)
def spW (pg : Int → Nat) (id : Int) (x : Int × Bool) : W := .agg [.int .i64 x.1, .bool x.2, .mp (some (pg id))]
structure SaA where
  c : Nat
  sp : Nat
  rf : Nat
  bd : Nat
  wn : Nat
  pg : Int → Nat
structure StAt (H : Heap) (a : SaA) (st : Sta) : Prop where
  w : SaW st
  c : H[a.c]? = some (.cells [.mp (some a.sp), .mp (some a.rf), .mp (some a.bd), .mp (some a.wn)] .exact)
  sp : MpA H a.sp (spW a.pg) st.sp
  pg : ∀ id x, afind st.sp id = some x → MpA H (a.pg id) inW (pgs st.lv id)
  rf : MpA H a.rf inW (rfOf st.lv)
  bd : MpA H a.bd boW st.bd
  wn : MpA H a.wn inW st.wn
  nd : a.sp ≠ a.rf ∧ a.sp ≠ a.bd ∧ a.sp ≠ a.wn ∧ a.rf ≠ a.bd ∧ a.rf ≠ a.wn ∧ a.bd ≠ a.wn
  pn : ∀ id x, afind st.sp id = some x → a.pg id ≠ a.sp ∧ a.pg id ≠ a.rf ∧ a.pg id ≠ a.bd ∧ a.pg id ≠ a.wn
  pi : ∀ id x id' x', afind st.sp id = some x → afind st.sp id' = some x' → a.pg id = a.pg id' → id = id'
/-- All its blocks. -/
def SaA.fp (a : SaA) (st : Sta) (b : Nat) : Prop := b = a.c ∨ b = a.sp ∨ b = a.rf ∨ b = a.bd ∨ b = a.wn ∨ ∃ id x, afind st.sp id = some x ∧ b = a.pg id
section
variable {H : Heap} {a : SaA} {st : Sta}
theorem StAt.keep (h : StAt H a st) {F : Nat → Prop} {H' : Heap} (k : Keep F H H') (hF : ∀ b, a.fp st b → ¬ F b) : StAt H' a st :=
  ⟨h.w, k.get h.c (hF _ (.inl rfl)), h.sp.keep k (hF _ (.inr (.inl rfl))), fun id x hx => (h.pg id x hx).keep k (hF _ (.inr (.inr (.inr (.inr (.inr ⟨id, x, hx, rfl⟩)))))),
    h.rf.keep k (hF _ (.inr (.inr (.inl rfl)))), h.bd.keep k (hF _ (.inr (.inr (.inr (.inl rfl))))), h.wn.keep k (hF _ (.inr (.inr (.inr (.inr (.inl rfl)))))), h.nd, h.pn, h.pi⟩
theorem StAt.lt (h : StAt H a st) {b : Nat} (hb : a.fp st b) : b < H.length := by
  rcases hb with rfl | rfl | rfl | rfl | rfl | ⟨id, x, hx, rfl⟩
  · exact get_lt h.c
  · exact h.sp.lt
  · exact h.rf.lt
  · exact h.bd.lt
  · exact h.wn.lt
  · exact (h.pg id x hx).lt
theorem StAt.push (h : StAt H a st) (x : Blk) : StAt (H ++ [x]) a st := h.keep (Keep.push (fun _ => False) H x) fun _ _ => id
theorem StAt.r0 (h : StAt H a st) : rdM H a.c 0 = some (some a.sp) := rdM_of h.c rfl
theorem StAt.r1 (h : StAt H a st) : rdM H a.c (0 + 1) = some (some a.rf) := rdM_of h.c rfl
theorem StAt.r2 (h : StAt H a st) : rdM H a.c (0 + 2) = some (some a.bd) := rdM_of h.c rfl
theorem StAt.r3 (h : StAt H a st) : rdM H a.c (0 + 3) = some (some a.wn) := rdM_of h.c rfl
theorem mp_ne {b c : Nat} {cs : List C} {bk : BK} {α : Type} {f : Int → α → W} {l : List (Int × α)} (h : H[c]? = some (.cells cs bk)) (hm : MpA H b f l) : b ≠ c := by
  rintro rfl
  obtain ⟨dc, hm⟩ := hm
  rw [h] at hm; cases hm

/-- A number out of a map of numbers. -/
theorem MpA.int {b : Nat} {l : List (Int × Int)} (h : MpA H b inW l) (k : Int) : mget H (.one (.int .i64)) (.one (.int .i64 0)) (some b) k = some ((afind l k).getD 0, (afind l k).isSome) := by
  refine h.get (.one (.int .i64)) _ k ?_
  cases afind l k <;> rfl
theorem MpA.bool {b : Nat} {l : List (Int × Unit)} (h : MpA H b boW l) (k : Int) : mget H (.one .bool) (.one (.bool false)) (some b) k = some ((afind l k).isSome, (afind l k).isSome) := by
  refine h.get (.one .bool) _ k ?_
  cases afind l k <;> rfl
def spV (pg : Int → Nat) (id : Int) : Option (Int × Bool) → Int × Bool × Option Nat × Unit
  | some x => (x.1, x.2, some (pg id), ())
  | none => (0, false, none, ())
theorem MpA.space {b : Nat} {pg : Int → Nat} {l : List (Int × Int × Bool)} (h : MpA H b (spW pg) l) (k : Int) : mget H (.agg [.int .i64, .bool, .mp]) (.agg [.int .i64 0, .bool false, .mp none]) (some b) k = some (spV pg k (afind l k), (afind l k).isSome) := by
  refine h.get (.agg [.int .i64, .bool, .mp]) _ k ?_
  cases afind l k <;> rfl
theorem mget_nil (ty : Ty) (zero : W) (k : Int) {v : ty.T} (hv : ty.un zero = some v) : mget H ty zero none k = some (v, false) := by
  simp only [mget, mgetW, Option.bind_some, Option.getD_none, hv]; rfl

theorem pgs_none (w : SaW st) {id : Int} (hn : afind st.sp id = none) : pgs st.lv id = [] := by
  unfold pgs
  have : (st.lv.filter fun x => decide (x.1 / 1024 = id)) = [] := by
    rw [List.filter_eq_nil_iff]
    intro x hx hd
    have hd := of_decide_eq_true hd
    have := w.own x hx
    rw [hd, hn] at this; cases this
  rw [this]; rfl
theorem st_get (h : StAt H a st) (id p : Int) : state_State_Get (some (a.c, 0)) id p H = some (((afind (pgs st.lv id) p).getD 0, (afind (pgs st.lv id) p).isSome, ()), H) := by
  unfold state_State_Get
  simp only [Option.isNone_some, cond_false, Option.bind_some, h.r0, h.sp.space]
  cases hx : afind st.sp id with
  | none =>
    rw [pgs_none h.w hx]
    simp only [spV]
    rw [mget_nil (.one (.int .i64)) _ _ (v := (0 : Int)) rfl]; rfl
  | some x =>
    simp only [spV]
    rw [(h.pg id x hx).int]; rfl
theorem st_refs (h : StAt H a st) (c : Int) : state_State_Refs (some (a.c, 0)) c H = some (((cnt st.lv c : Int), ()), H) := by
  unfold state_State_Refs
  simp only [Option.isNone_some, cond_false, Option.bind_some, h.r1, h.rf.int, (rfOf_ok st.lv).get]
theorem st_live (h : StAt H a st) : state_State_Live (some (a.c, 0)) H = some ((((rfOf st.lv).length : Int), ()), H) := by
  unfold state_State_Live
  simp only [Option.isNone_some, cond_false, Option.bind_some, h.r1, h.rf.len]
theorem st_bads (h : StAt H a st) : state_State_Bads (some (a.c, 0)) H = some (((st.bd.length : Int), ()), H) := by
  unfold state_State_Bads
  simp only [Option.isNone_some, Bool.not_false, cond_true, cond_false, Option.bind_some, h.r2, h.bd.len]
theorem st_bad (h : StAt H a st) (b : Int) : state_State_Bad (some (a.c, 0)) b H = some (((afind st.bd b).isSome, ()), H) := by
  unfold state_State_Bad
  simp only [Option.isNone_some, Bool.not_false, cond_true, Option.bind_some, h.r2, h.bd.bool]
theorem st_worn (h : StAt H a st) (b : Int) : state_State_Worn (some (a.c, 0)) b H = some (((afind st.wn b).getD 0, ()), H) := by
  unfold state_State_Worn
  simp only [Option.isNone_some, cond_false, Option.bind_some, h.r3, h.wn.int]

/-- What is told of a space. -/
def spI (st : Sta) (id : Int) : Int × Int × Int × Bool × Unit :=
  match afind st.sp id with
  | some x => (id, x.1, ((pgs st.lv id).length : Int), x.2, ())
  | none => (0, 0, 0, false, ())
theorem st_space (h : StAt H a st) (id : Int) : ∃ H', state_State_Space (some (a.c, 0)) id H = some ((spI st id, (afind st.sp id).isSome, ()), H') ∧ Keep (fun _ => False) H H' := by
  have h1 := h.push (.cells [.int .i64 0, .int .i64 0, .int .i64 0, .bool false] .exact)
  unfold state_State_Space
  simp only [Option.isNone_some, cond_false, Option.bind_some, h1.r0, h1.sp.space]
  cases hx : afind st.sp id with
  | none =>
    simp only [spV, Option.isSome_none, Bool.not_false, Option.bind_some, Option.map_some, cond_true, cond_false, List.append_assoc, List.cons_append, List.nil_append, List.length_append, List.length_cons, List.length_nil, Nat.zero_add, rd_t0, rd_t1, rdI_t0, rdI_t1, rdB_t0, rdB_t1, rdM_t0, rdM_t1, rd_c1, rdI_c1, rdB_c1, rdM_c1, rdI_c0, rdB_c0, rdM_c0, wr_t0, wr_t1, wr_c0, wr_c1, setL, List.set, List.getElem?_cons_zero, List.getElem?_cons_succ, un_i, un_b, un_m, un_s, Nat.le_refl, rd_iiib, rd_iiiiii, rd_ibm, rd_iii, rd_iib, rd_ii, rd_3312, rd_iiii, rd_si, rd_33121, rd_33121i, slRow_t0, slRow_t1, sl_c0, sl_c1]
    simp only [spI, hx]
    exact ⟨_, rfl, Keep.app _ _ _⟩
  | some x =>
    have h2 := h1.push (.cells [.int .i64 x.1, .bool x.2, .mp (some (a.pg id))] .exact)
    have h3 := (h2.pg id x hx).len
    simp only [spV, Option.isSome_some, Bool.not_true, Option.bind_some, Option.map_some, cond_true, cond_false, List.append_assoc, List.cons_append, List.nil_append, List.length_append, List.length_cons, List.length_nil, Nat.zero_add, rd_t0, rd_t1, rdI_t0, rdI_t1, rdB_t0, rdB_t1, rdM_t0, rdM_t1, rd_c1, rdI_c1, rdB_c1, rdM_c1, rdI_c0, rdB_c0, rdM_c0, wr_t0, wr_t1, wr_c0, wr_c1, setL, List.set, List.getElem?_cons_zero, List.getElem?_cons_succ, un_i, un_b, un_m, un_s, Nat.le_refl, rd_iiib, rd_iiiiii, rd_ibm, rd_iii, rd_iib, rd_ii, rd_3312, rd_iiii, rd_si, rd_33121, rd_33121i, slRow_t0, slRow_t1, sl_c0, sl_c1] at h3 ⊢
    simp only [h3, Option.bind_some, Option.map_some, cond_true, cond_false, List.append_assoc, List.cons_append, List.nil_append, List.length_append, List.length_cons, List.length_nil, Nat.zero_add, rd_t0, rd_t1, rdI_t0, rdI_t1, rdB_t0, rdB_t1, rdM_t0, rdM_t1, rd_c1, rdI_c1, rdB_c1, rdM_c1, rdI_c0, rdB_c0, rdM_c0, wr_t0, wr_t1, wr_c0, wr_c1, setL, List.set, List.getElem?_cons_zero, List.getElem?_cons_succ, un_i, un_b, un_m, un_s, Nat.le_refl, rd_iiib, rd_iiiiii, rd_ibm, rd_iii, rd_iib, rd_ii, rd_3312, rd_iiii, rd_si, rd_33121, rd_33121i, slRow_t0, slRow_t1, sl_c0, sl_c1]
    simp only [spI, hx]
    exact ⟨_, rfl, Keep.app _ _ _⟩
end
end Ev
