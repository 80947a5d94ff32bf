/- The writer: how it stands in the heap. -/
import Derived.Test.YtloijdlakkmjgaaGWrite
import Derived.Test.YtloijdlakkmjgaaGWear
import Derived.Test.YtloijdlakkmjgaaSLife
import Derived.Test.YtloijdlakkmjgaaSNandT
import Derived.Test.YtloijdlakkmjgaaSCalm
namespace Ev
open Go (IntKind)

structure WrA where
  w : Nat
  wb : Nat
structure Wr where
  lf : Lf
  worn : Nat → Int
  bad : List Int
def Wr.row (v : Wr) (i : Nat) : List C := [.int .i64 (v.worn i)]
def wcells (z : WrA) (a : NdA) (e : LfA) (sb : Sl) : List C := [.ptr (some (a.c, 0)), .ptr (some (e.c, 0)), .sl 1 ⟨some (z.wb, 0), e.B, e.B⟩, .sl 1 sb]

/-- The blocks of a writer. -/
def WrA.own (z : WrA) (a : NdA) (e : LfA) (sb : Sl) (k : Nat) : Prop := a.own k ∨ e.fp k ∨ k = z.w ∨ k = z.wb ∨ ∃ o, sb.p = some (k, o)
structure WrAt (N : Nat → Prop) (H : Heap) (z : WrA) (a : NdA) (e : LfA) (s : Nd) (v : Wr) (sb : Sl) : Prop where
  nd : NdAt H a s
  lf : LfAt H e v.lf
  cell : H[z.w]? = some (.cells (wcells z a e sb) .exact)
  worn : ∃ bk, bk ≠ .ro ∧ H[z.wb]? = some (.cells (arrC e.B v.row) bk)
  bads : Grown H 1 sb (intC v.bad)
  eB : e.B = a.B ∧ e.P = a.P
  d1 : ∀ k, a.own k → ¬ e.fp k ∧ k ≠ z.w ∧ k ≠ z.wb ∧ ∀ o, sb.p ≠ some (k, o)
  d2 : ∀ k, e.fp k → k ≠ z.w ∧ k ≠ z.wb ∧ ∀ o, sb.p ≠ some (k, o)
  d3 : z.w ≠ z.wb ∧ (∀ o, sb.p ≠ some (z.w, o)) ∧ ∀ o, sb.p ≠ some (z.wb, o)
  nN : ∀ k, z.own a e sb k → ¬ N k
  NL : ∀ k, N k → k < H.length

section
variable {N : Nat → Prop} {H : Heap} {z : WrA} {a : NdA} {e : LfA} {s : Nd} {v : Wr} {sb : Sl}

theorem wrow_len (v : Wr) : ∀ i, (v.row i).length = 1 := fun _ => rfl
theorem WrAt.rc (h : WrAt N H z a e s v sb) : rdP H z.w 0 = some (some (a.c, 0)) := rdP_of h.cell rfl
theorem WrAt.rl (h : WrAt N H z a e s v sb) : rdP H z.w 1 = some (some (e.c, 0)) := rdP_of h.cell rfl
theorem WrAt.rw' (h : WrAt N H z a e s v sb) : rdSl 1 H z.w 2 = some ⟨some (z.wb, 0), e.B, e.B⟩ := rdSl_of h.cell rfl
theorem WrAt.rb (h : WrAt N H z a e s v sb) : rdSl 1 H z.w 3 = some sb := rdSl_of h.cell rfl
theorem WrAt.wat (i : Nat) (hi : i < e.B) : Sl.at 1 ⟨some (z.wb, 0), e.B, e.B⟩ (i : Int) = some (z.wb, i) := by
  rw [at_of (by omega) (by omega), Int.toNat_natCast, Nat.mul_one, Nat.zero_add]
theorem WrAt.ri (h : WrAt N H z a e s v sb) {i : Nat} (hi : i < e.B) : rdI .i64 H z.wb i = some (v.worn i) := by
  obtain ⟨bk, _, hw⟩ := h.worn
  have := arrC_get (wrow_len v) (j := 0) (by decide) hi
  rw [Nat.mul_one, Nat.add_zero] at this
  exact rdI_of hw this
theorem WrAt.lt (h : WrAt N H z a e s v sb) {k : Nat} (hk : z.own a e sb k) : k < H.length := by
  rcases hk with hk | hk | rfl | rfl | ⟨o, ho⟩
  · exact h.nd.own_lt hk
  · exact h.lf.lt hk
  · exact get_lt h.cell
  · obtain ⟨bk, _, hw⟩ := h.worn
    exact get_lt hw
  · exact h.bads.lt ho
/-- Other blocks turn. -/
theorem WrAt.keep (h : WrAt N H z a e s v sb) {F : Nat → Prop} {H' : Heap} (kp : Keep F H H') (hF : ∀ k, z.own a e sb k → ¬ F k) : WrAt N H' z a e s v sb where
  nd := h.nd.keep kp fun k hk => hF k (.inl hk)
  lf := h.lf.keep kp fun k hk => hF k (.inr (.inl hk))
  cell := kp.get h.cell (hF _ (.inr (.inr (.inl rfl))))
  worn := by
    obtain ⟨bk, h1, h2⟩ := h.worn
    exact ⟨bk, h1, kp.get h2 (hF _ (.inr (.inr (.inr (.inl rfl)))))⟩
  bads := h.bads.mono fun x hx => kp.same _ (h.bads.lt hx) (hF _ (.inr (.inr (.inr (.inr ⟨x.2, hx⟩)))))
  eB := h.eB
  d1 := h.d1
  d2 := h.d2
  d3 := h.d3
  nN := h.nN
  NL := fun k hk => Nat.lt_of_lt_of_le (h.NL k hk) kp.len
theorem WrAt.push (h : WrAt N H z a e s v sb) (x : Blk) : WrAt N (H ++ [x]) z a e s v sb := h.keep (Keep.push (fun _ => False) H x) fun _ _ => id
/-- Blocks that are no more to be touched. -/
theorem WrAt.more (h : WrAt N H z a e s v sb) {M : Nat → Prop} (h1 : ∀ k, z.own a e sb k → ¬ M k) (h2 : ∀ k, M k → k < H.length) : WrAt M H z a e s v sb := { h with nN := h1, NL := h2 }
theorem WrAt.chip (h : WrAt N H z a e s v sb) {H' : Heap} {s' : Nd} (n : NdAt H' a s') (kp : Keep a.fp H H') : WrAt N H' z a e s' v sb where
  nd := n
  lf := h.lf.keep kp fun k hk hf => (h.d1 k (.inl hf)).1 hk
  cell := kp.get h.cell fun hf => (h.d1 _ (.inl hf)).2.1 rfl
  worn := by
    obtain ⟨bk, h1, h2⟩ := h.worn
    exact ⟨bk, h1, kp.get h2 fun hf => (h.d1 _ (.inl hf)).2.2.1 rfl⟩
  bads := h.bads.mono fun x hx => kp.same _ (h.bads.lt hx) fun hf => (h.d1 _ (.inl hf)).2.2.2 x.2 hx
  eB := h.eB
  d1 := h.d1
  d2 := h.d2
  d3 := h.d3
  nN := h.nN
  NL := fun k hk => Nat.lt_of_lt_of_le (h.NL k hk) kp.len
theorem WrAt.life (h : WrAt N H z a e s v sb) {H' : Heap} {f : Lf} (n : LfAt H' e f) (kp : Keep e.fp H H') : WrAt N H' z a e s { v with lf := f } sb where
  nd := h.nd.keep kp fun k hk hf => (h.d1 k hk).1 hf
  lf := n
  cell := kp.get h.cell fun hf => (h.d2 _ hf).1 rfl
  worn := by
    obtain ⟨bk, h1, h2⟩ := h.worn
    exact ⟨bk, h1, kp.get h2 fun hf => (h.d2 _ hf).2.1 rfl⟩
  bads := h.bads.mono fun x hx => kp.same _ (h.bads.lt hx) fun hf => (h.d2 _ hf).2.2 x.2 hx
  eB := h.eB
  d1 := h.d1
  d2 := h.d2
  d3 := h.d3
  nN := h.nN
  NL := fun k hk => Nat.lt_of_lt_of_le (h.NL k hk) kp.len
theorem WrAt.nc (h : WrAt N H z a e s v sb) {H' : Heap} (kp : Keep a.fp H H') : Keep (fun k => ¬ N k) H H' := kp.mono fun k hk => h.nN k (.inl (.inl hk))
theorem WrAt.nl (h : WrAt N H z a e s v sb) {H' : Heap} (kp : Keep e.fp H H') : Keep (fun k => ¬ N k) H H' := kp.mono fun k hk => h.nN k (.inr (.inl hk))
theorem WrAt.nw (h : WrAt N H z a e s v sb) {H' : Heap} (kp : Keep (fun k => k = z.w) H H') : Keep (fun k => ¬ N k) H H' := kp.mono fun k hk => h.nN k (.inr (.inr (.inl hk)))
theorem WrAt.nb (h : WrAt N H z a e s v sb) {H' : Heap} (kp : Keep (fun k => k = z.wb) H H') : Keep (fun k => ¬ N k) H H' := kp.mono fun k hk => h.nN k (.inr (.inr (.inr (.inl hk))))
/-- A count of erasures is written. -/
theorem WrAt.wi (h : WrAt N H z a e s v sb) {i : Nat} (hi : i < e.B) (x : Int) : ∃ H', wr H z.wb i [.int .i64 x] = some H' ∧ WrAt N H' z a e s { v with worn := upd v.worn i x } sb ∧ Keep (fun k => ¬ N k) H H' := by
  obtain ⟨bk, h1, h2⟩ := h.worn
  have hs := arrC_set (wrow_len v) (j := 0) (by decide) (.int .i64 x) hi
  rw [Nat.mul_one, Nat.add_zero] at hs
  have hrow : (arrC e.B v.row).set i (.int .i64 x) = arrC e.B ({ v with worn := upd v.worn i x } : Wr).row := by
    rw [hs]
    congr 1
    funext k
    by_cases hk : k = i
    · subst hk; simp [Wr.row, upd]
    · simp [Wr.row, upd, hk]
  have kp : Keep (fun k => k = z.wb) H (H.set z.wb (.cells (arrC e.B ({ v with worn := upd v.worn i x } : Wr).row) bk)) := Keep.set _ _ _ rfl
  refine ⟨_, by rw [wr1_of h2 h1 (by rw [arrC_length (wrow_len v)]; omega), hrow], ?_, h.nb kp⟩
  exact { nd := h.nd.keep kp fun k hk hf => (h.d1 k hk).2.2.1 hf, lf := h.lf.keep kp fun k hk hf => (h.d2 k hk).2.1 hf, cell := kp.get h.cell h.d3.1, worn := ⟨bk, h1, set_get (get_lt h2)⟩,
          bads := h.bads.mono fun y hy => kp.same _ (h.bads.lt hy) fun hf => h.d3.2.2 y.2 (by rw [← hf]; exact hy), eB := h.eB, d1 := h.d1, d2 := h.d2, d3 := h.d3, nN := h.nN, NL := fun k hk => Nat.lt_of_lt_of_le (h.NL k hk) kp.len }
/-- Blocks that turned bad are told no more. -/
theorem WrAt.nilB (h : WrAt N H z a e s v sb) : ∃ H', wr H z.w 3 [.sl 1 ⟨none, 0, 0⟩] = some H' ∧ WrAt N H' z a e s { v with bad := [] } ⟨none, 0, 0⟩ ∧ Keep (fun k => ¬ N k) H H' := by
  have kp : Keep (fun k => k = z.w) H (H.set z.w (.cells ((wcells z a e sb).set 3 (.sl 1 ⟨none, 0, 0⟩)) .exact)) := Keep.set _ _ _ rfl
  refine ⟨_, wr1_of h.cell (by decide) (by simp [wcells]), ?_, h.nw kp⟩
  exact { nd := h.nd.keep kp fun k hk hf => (h.d1 k hk).2.1 hf, lf := h.lf.keep kp fun k hk hf => (h.d2 k hk).1 hf, cell := by rw [set_get (get_lt h.cell)]; rfl, worn := by
            obtain ⟨bk, h1, h2⟩ := h.worn
            exact ⟨bk, h1, kp.get h2 (Ne.symm h.d3.1)⟩,
          bads := Grown.ni _ 1, eB := h.eB, d1 := fun k hk => ⟨(h.d1 k hk).1, (h.d1 k hk).2.1, (h.d1 k hk).2.2.1, fun o ho => (by cases ho)⟩, d2 := fun k hk => ⟨(h.d2 k hk).1, (h.d2 k hk).2.1, fun o ho => (by cases ho)⟩, d3 := ⟨h.d3.1, fun o ho => (by cases ho), fun o ho => (by cases ho)⟩,
          nN := fun k hk => h.nN k (by
            rcases hk with hk | hk | hk | hk | ⟨o, ho⟩
            · exact .inl hk
            · exact .inr (.inl hk)
            · exact .inr (.inr (.inl hk))
            · exact .inr (.inr (.inr (.inl hk)))
            · cases ho), NL := fun k hk => Nat.lt_of_lt_of_le (h.NL k hk) kp.len }
/-- One more block turned bad. -/
theorem WrAt.addB (h : WrAt N H z a e s v sb) (x : Int) (hl : v.bad.length < 1000000) : ∃ sb' H1 H', appS (H ++ [.cells [.int .i64 x] .exact]) 1 8 sb 1 [.int .i64 x] = some (sb', H1) ∧ wr H1 z.w 3 [.sl 1 sb'] = some H' ∧ WrAt N H' z a e s { v with bad := v.bad ++ [x] } sb' ∧ Keep (fun k => ¬ N k) H H' := by
  have hp := h.push (.cells [.int .i64 x] .exact)
  have hbl : sb.len = v.bad.length := by have := h.bads.len; simp [intC] at this; omega
  obtain ⟨a1, a2⟩ := hp.bads.app (bytes := 8) (by decide) (n := 1) (new := [.int .i64 x]) (by decide) rfl (by omega) (by omega)
  have gl := grownH_length (H ++ [.cells [.int .i64 x] .exact]) sb (intC v.bad ++ [.int .i64 x])
  have hpl : (H ++ [Blk.cells [.int .i64 x] .exact]).length = H.length + 1 := by simp
  have kg : Keep (fun k => ∃ o, sb.p = some (k, o)) (H ++ [.cells [.int .i64 x] .exact]) (grownH (H ++ [.cells [.int .i64 x] .exact]) sb (intC v.bad ++ [.int .i64 x])) :=
    ⟨by rw [gl]; omega, fun y hy hf => grownH_get hy fun q hq e => hf ⟨q.2, by rw [hq, ← e]⟩⟩
  have cg := kg.get hp.cell (fun ⟨o, ho⟩ => h.d3.2.1 o ho)
  generalize eG : grownH (H ++ [.cells [.int .i64 x] .exact]) sb (intC v.bad ++ [.int .i64 x]) = G at a1 a2 gl kg cg
  have kp : Keep (fun k => k = z.w) G (G.set z.w (.cells ((wcells z a e sb).set 3 (.sl 1 ⟨some ((H ++ [Blk.cells [.int .i64 x] .exact]).length, 0), sb.len + 1, sb.len + 1⟩)) .exact)) := Keep.set _ _ _ rfl
  have hnew : ∀ k, k < H.length → ∀ o, (some ((H ++ [Blk.cells [.int .i64 x] .exact]).length, 0) : Option (Nat × Nat)) ≠ some (k, o) := fun k hk o he => by
    have := congrArg (fun y => y.map (·.1)) he
    simp at this
    omega
  refine ⟨_, _, _, a1, wr1_of cg (by decide) (by simp [wcells]), ?_, ?_⟩
  · have n1 := hp.nd.keep kg fun k hk ⟨o, ho⟩ => (h.d1 k hk).2.2.2 o ho
    have n2 := hp.lf.keep kg fun k hk ⟨o, ho⟩ => (h.d2 k hk).2.2 o ho
    exact { nd := n1.keep kp fun k hk hf => (h.d1 k hk).2.1 hf, lf := n2.keep kp fun k hk hf => (h.d2 k hk).1 hf, cell := by rw [set_get (get_lt cg)]; rfl,
            worn := by
              obtain ⟨bk, h1, h2⟩ := hp.worn
              exact ⟨bk, h1, kp.get (kg.get h2 fun ⟨o, ho⟩ => h.d3.2.2 o ho) (Ne.symm h.d3.1)⟩,
            bads := by
              have hi : intC (v.bad ++ [x]) = intC v.bad ++ [.int .i64 x] := by simp [intC]
              show Grown _ 1 _ (intC (v.bad ++ [x]))
              rw [hi]
              exact a2.mono fun q hq => kp.same _ (a2.lt hq) (by
                cases hq
                have := get_lt h.cell
                simp; omega),
            eB := h.eB,
            d1 := fun k hk => ⟨(h.d1 k hk).1, (h.d1 k hk).2.1, (h.d1 k hk).2.2.1, fun o => hnew k (h.nd.own_lt hk) o⟩,
            d2 := fun k hk => ⟨(h.d2 k hk).1, (h.d2 k hk).2.1, fun o => hnew k (h.lf.lt hk) o⟩,
            d3 := ⟨h.d3.1, fun o => hnew _ (get_lt h.cell) o, fun o => hnew _ (h.lt (.inr (.inr (.inr (.inl rfl))))) o⟩,
            nN := fun k hk hf => by
              rcases hk with hk | hk | hk | hk | ⟨o, ho⟩
              · exact h.nN k (.inl hk) hf
              · exact h.nN k (.inr (.inl hk)) hf
              · exact h.nN k (.inr (.inr (.inl hk))) hf
              · exact h.nN k (.inr (.inr (.inr (.inl hk)))) hf
              · exact hnew k (h.NL k hf) o ho,
            NL := fun k hk => by have := h.NL k hk; have := kp.len; omega }
  · have k1 : Keep (fun k => ¬ N k) (H ++ [.cells [.int .i64 x] .exact]) G := kg.mono fun k ⟨o, ho⟩ => h.nN k (.inr (.inr (.inr (.inr ⟨o, ho⟩))))
    have k2 : Keep (fun k => ¬ N k) G _ := kp.mono fun k hk => h.nN k (.inr (.inr (.inl hk)))
    exact ((Keep.push _ _ _).trans k1).trans k2
end
end Ev
