/- SPv SWrite SWriteF SWriteG SWriteH -/
import Derived.Test.YtloijdlakkmjgaaKN5
import Derived.Test.YtloijdlakkmjgaaGWrite
import Derived.Test.YtloijdlakkmjgaaGWear
/- Pages of a chip as package page sees them: numbers that stand in them; pages that were torn. -/
namespace Ev
open Go (IntKind)

theorem fld_here' {x y : Bytes} {n : Nat} (h : x.length = n) : fld (x ++ y) 0 n = valB x := by
  unfold fld; rw [List.drop_zero, ← h, List.take_left]
theorem fld_next' {x y : Bytes} {o n m : Nat} (h : x.length = m) (ho : m ≤ o) : fld (x ++ y) o n = fld y (o - m) n := by
  unfold fld
  rw [List.drop_append, List.drop_eq_nil_of_le (by omega), List.nil_append, h]

theorem tagOf_spare' {t : Tg} {s : Bytes} {size : Nat} (h1 : tagOK t = true) (hq : 0 ≤ t.2.1 ∧ t.2.1 < 18446744073709551616) (h3 : size < 65536) (h4 : s.length ≤ size) : tagOf (spareOf t s size) = t ∧ longOf (spareOf t s size) = s.length := by
  obtain ⟨k, q, i, o, w, u⟩ := t
  have ht := of_decide_eq_true h1
  simp only at ht hq
  have e : spareOf (k, q, i, o, w, u) s size = leB 1 k.toNat ++ (leB 8 q.toNat ++ (leB 2 i.toNat ++ (leB 2 o.toNat ++ (leB 4 w.toNat ++ (leB 2 s.length ++ (zerosB 9 ++ leB 4 (crcMore 0 (dataOf s size ++ rowOf (k, q, i, o, w, u) s.length)))))))) := by
    simp [spareOf, rowOf, List.append_assoc]
  have v1 : valB (leB 1 k.toNat) = k.toNat := valB_leB 1 _ (by omega)
  have v2 : valB (leB 8 q.toNat) = q.toNat := valB_leB 8 _ (by omega)
  have v3 : valB (leB 2 i.toNat) = i.toNat := valB_leB 2 _ (by omega)
  have v4 : valB (leB 2 o.toNat) = o.toNat := valB_leB 2 _ (by omega)
  have v5 : valB (leB 4 w.toNat) = w.toNat := valB_leB 4 _ (by omega)
  have v6 : valB (leB 2 s.length) = s.length := valB_leB 2 _ (by omega)
  have l1 := leB_length 1 k.toNat; have l2 := leB_length 8 q.toNat; have l3 := leB_length 2 i.toNat; have l4 := leB_length 2 o.toNat; have l5 := leB_length 4 w.toNat; have l6 := leB_length 2 s.length
  rw [e]
  generalize zerosB 9 ++ leB 4 (crcMore 0 (dataOf s size ++ rowOf (k, q, i, o, w, u) s.length)) = z
  unfold tagOf longOf
  rw [fld_here' l1, fld_next' l1 (by decide), fld_here' l2]
  rw [fld_next' l1 (by decide), fld_next' l2 (by decide), fld_here' l3]
  rw [fld_next' l1 (by decide), fld_next' l2 (by decide), fld_next' l3 (by decide), fld_here' l4]
  rw [fld_next' l1 (by decide), fld_next' l2 (by decide), fld_next' l3 (by decide), fld_next' l4 (by decide), fld_here' l5]
  rw [fld_next' l1 (by decide), fld_next' l2 (by decide), fld_next' l3 (by decide), fld_next' l4 (by decide), fld_next' l5 (by decide), fld_here' l6]
  rw [v1, v2, v3, v4, v5, v6]
  refine ⟨?_, rfl⟩
  rw [Int.toNat_of_nonneg (by omega), Int.toNat_of_nonneg (by omega), Int.toNat_of_nonneg (by omega), Int.toNat_of_nonneg (by omega), Int.toNat_of_nonneg (by omega)]
theorem spare_dirty' (t : Tg) (s : Bytes) (size : Nat) : cleanB (spareOf t s size) = false := by
  unfold cleanB
  rw [List.all_eq_false]
  refine ⟨0, ?_, by decide⟩
  simp [spareOf, rowOf, zerosB]
theorem look_frame' {t : Tg} {s : Bytes} {size : Nat} (h1 : tagOK t = true) (hq : 0 ≤ t.2.1 ∧ t.2.1 < 18446744073709551616) (h3 : size < 65536) (h4 : s.length ≤ size) : lookP (dataOf s size) (spareOf t s size) = (1, t, s, ()) := by
  obtain ⟨e1, e2⟩ := tagOf_spare' h1 hq h3 h4
  have e3 : (dataOf s size).take s.length = s := by unfold dataOf; rw [List.take_left]
  have e4 := dataOf_length h4
  have hw : whole (dataOf s size) (spareOf t s size) = true := decide_eq_true ⟨spareOf_length t s size, by rw [e2, e4]; exact h4, by rw [e1]; exact h1, by rw [e4]; exact h3, by rw [e2, e3, e4], by rw [e1, e2, e3, e4]⟩
  unfold lookP
  rw [if_neg (fun h => by rw [spare_dirty'] at h; exact absurd h.2 (by decide)), if_pos hw, e1, e2, e3]

/-- What package page says of the bytes of a page. -/
def viewB (a : NdA) (t : Bytes) : Int × Tg × Bytes × Unit := lookP (t.take a.S) (t.drop a.S)
theorem view_full (a : NdA) : viewB a (fullP a) = (0, tag0, [], ()) := by
  unfold viewB lookP
  have h : ∀ t : Bytes, (∀ b ∈ t, b = 255) → cleanB t = true := fun t ht => List.all_eq_true.2 fun b hb => by simpa using ht b hb
  rw [if_pos]
  refine ⟨h _ fun b hb => ?_, h _ fun b hb => ?_⟩
  · exact List.eq_of_mem_replicate (List.mem_of_mem_take hb)
  · exact List.eq_of_mem_replicate (List.mem_of_mem_drop hb)
theorem view_clean {a : NdA} {t : Bytes} (hl : t.length = a.S + 32) (h : (viewB a t).1 = 0) : t = fullP a := by
  unfold viewB lookP at h
  split at h
  · rename_i hc
    unfold fullP
    rw [List.eq_replicate_iff]
    refine ⟨hl, fun b hb => ?_⟩
    rw [← List.take_append_drop a.S t] at hb
    rcases List.mem_append.1 hb with hb | hb
    · simpa using List.all_eq_true.1 hc.1 b hb
    · simpa using List.all_eq_true.1 hc.2 b hb
  · split at h
    · exact absurd h (by simp)
    · exact absurd h (by simp)

/-- The bytes of a page that says s under a tag. -/
def frameB (a : NdA) (t : Tg) (s : Bytes) : Bytes := dataOf s a.S ++ spareOf t s a.S
theorem frameB_length {a : NdA} {t : Tg} {s : Bytes} (h : s.length ≤ a.S) : (frameB a t s).length = a.S + 32 := by unfold frameB; rw [List.length_append, dataOf_length h, spareOf_length]
theorem view_frame {a : NdA} {t : Tg} {s : Bytes} (h1 : tagOK t = true) (hq : 0 ≤ t.2.1 ∧ t.2.1 < 18446744073709551616) (h3 : a.S < 65536) (h4 : s.length ≤ a.S) : viewB a (frameB a t s) = (1, t, s, ()) := by
  unfold viewB frameB
  rw [List.take_left' (dataOf_length h4), List.drop_left' (dataOf_length h4)]
  exact look_frame' h1 hq h3 h4
theorem frame_ne_full {a : NdA} {t : Tg} {s : Bytes} (h4 : s.length ≤ a.S) : frameB a t s ≠ fullP a := by
  intro h
  have h0 : (0 : UInt8) ∈ fullP a := by rw [← h]; simp [frameB, spareOf, rowOf, zerosB]
  exact absurd (List.eq_of_mem_replicate h0) (by decide)

theorem Fine.erased {a : NdA} {s : Nd} (h : Fine a s) (b p : Nat) : (viewB a (s.read a b p)).1 = 0 ↔ s.pages b p = [] := by
  constructor
  · intro hv
    have hf := view_clean (h.read b p) hv
    by_cases he : s.pages b p = []
    · exact he
    · have hne := ((h b p).resolve_left he).2
      unfold Nd.read at hf
      rw [if_neg he] at hf
      exact absurd hf hne
  · intro he
    unfold Nd.read
    rw [if_pos he, view_full]
end Ev

/- The writer: how it stands in the heap. -/
namespace Ev
open Go (IntKind)

structure WrA where
  w : Nat
  wb : Nat
structure Wr where
  lf : Lf
  worn : Nat → Int
  bad : List Int
def Wr.row (v : Wr) (i : Nat) : List C := [.int .i64 (v.worn i)]
def wcells (z : WrA) (a : NdA) (e : LfA) (sb : Sl) : List C := [.ptr (some (a.c, 0)), .ptr (some (e.c, 0)), .sl 1 ⟨some (z.wb, 0), e.B, e.B⟩, .sl 1 sb]

/-- The blocks of a writer. -/
def WrA.own (z : WrA) (a : NdA) (e : LfA) (sb : Sl) (k : Nat) : Prop := a.own k ∨ e.fp k ∨ k = z.w ∨ k = z.wb ∨ ∃ o, sb.p = some (k, o)
structure WrAt (N : Nat → Prop) (H : Heap) (z : WrA) (a : NdA) (e : LfA) (s : Nd) (v : Wr) (sb : Sl) : Prop where
  nd : NdAt H a s
  lf : LfAt H e v.lf
  cell : H[z.w]? = some (.cells (wcells z a e sb) .exact)
  worn : ∃ bk, bk ≠ .ro ∧ H[z.wb]? = some (.cells (arrC e.B v.row) bk)
  bads : Grown H 1 sb (intC v.bad)
  eB : e.B = a.B ∧ e.P = a.P
  d1 : ∀ k, a.own k → ¬ e.fp k ∧ k ≠ z.w ∧ k ≠ z.wb ∧ ∀ o, sb.p ≠ some (k, o)
  d2 : ∀ k, e.fp k → k ≠ z.w ∧ k ≠ z.wb ∧ ∀ o, sb.p ≠ some (k, o)
  d3 : z.w ≠ z.wb ∧ (∀ o, sb.p ≠ some (z.w, o)) ∧ ∀ o, sb.p ≠ some (z.wb, o)
  nN : ∀ k, z.own a e sb k → ¬ N k
  NL : ∀ k, N k → k < H.length

section
variable {N : Nat → Prop} {H : Heap} {z : WrA} {a : NdA} {e : LfA} {s : Nd} {v : Wr} {sb : Sl}

theorem wrow_len (v : Wr) : ∀ i, (v.row i).length = 1 := fun _ => rfl
theorem WrAt.rc (h : WrAt N H z a e s v sb) : rdP H z.w 0 = some (some (a.c, 0)) := rdP_of h.cell rfl
theorem WrAt.rl (h : WrAt N H z a e s v sb) : rdP H z.w 1 = some (some (e.c, 0)) := rdP_of h.cell rfl
theorem WrAt.rw' (h : WrAt N H z a e s v sb) : rdSl 1 H z.w 2 = some ⟨some (z.wb, 0), e.B, e.B⟩ := rdSl_of h.cell rfl
theorem WrAt.rb (h : WrAt N H z a e s v sb) : rdSl 1 H z.w 3 = some sb := rdSl_of h.cell rfl
theorem WrAt.wat (i : Nat) (hi : i < e.B) : Sl.at 1 ⟨some (z.wb, 0), e.B, e.B⟩ (i : Int) = some (z.wb, i) := by
  rw [at_of (by omega) (by omega), Int.toNat_natCast, Nat.mul_one, Nat.zero_add]
theorem WrAt.ri (h : WrAt N H z a e s v sb) {i : Nat} (hi : i < e.B) : rdI .i64 H z.wb i = some (v.worn i) := by
  obtain ⟨bk, _, hw⟩ := h.worn
  have := arrC_get (wrow_len v) (j := 0) (by decide) hi
  rw [Nat.mul_one, Nat.add_zero] at this
  exact rdI_of hw this
theorem WrAt.lt (h : WrAt N H z a e s v sb) {k : Nat} (hk : z.own a e sb k) : k < H.length := by
  rcases hk with hk | hk | rfl | rfl | ⟨o, ho⟩
  · exact h.nd.own_lt hk
  · exact h.lf.lt hk
  · exact get_lt h.cell
  · obtain ⟨bk, _, hw⟩ := h.worn
    exact get_lt hw
  · exact h.bads.lt ho
/-- Other blocks turn. -/
theorem WrAt.keep (h : WrAt N H z a e s v sb) {F : Nat → Prop} {H' : Heap} (kp : Keep F H H') (hF : ∀ k, z.own a e sb k → ¬ F k) : WrAt N H' z a e s v sb where
  nd := h.nd.keep kp fun k hk => hF k (.inl hk)
  lf := h.lf.keep kp fun k hk => hF k (.inr (.inl hk))
  cell := kp.get h.cell (hF _ (.inr (.inr (.inl rfl))))
  worn := by
    obtain ⟨bk, h1, h2⟩ := h.worn
    exact ⟨bk, h1, kp.get h2 (hF _ (.inr (.inr (.inr (.inl rfl)))))⟩
  bads := h.bads.mono fun x hx => kp.same _ (h.bads.lt hx) (hF _ (.inr (.inr (.inr (.inr ⟨x.2, hx⟩)))))
  eB := h.eB
  d1 := h.d1
  d2 := h.d2
  d3 := h.d3
  nN := h.nN
  NL := fun k hk => Nat.lt_of_lt_of_le (h.NL k hk) kp.len
theorem WrAt.push (h : WrAt N H z a e s v sb) (x : Blk) : WrAt N (H ++ [x]) z a e s v sb := h.keep (Keep.push (fun _ => False) H x) fun _ _ => id
/-- Blocks that are no more to be touched. -/
theorem WrAt.more (h : WrAt N H z a e s v sb) {M : Nat → Prop} (h1 : ∀ k, z.own a e sb k → ¬ M k) (h2 : ∀ k, M k → k < H.length) : WrAt M H z a e s v sb := { h with nN := h1, NL := h2 }
theorem WrAt.chip (h : WrAt N H z a e s v sb) {H' : Heap} {s' : Nd} (n : NdAt H' a s') (kp : Keep a.fp H H') : WrAt N H' z a e s' v sb where
  nd := n
  lf := h.lf.keep kp fun k hk hf => (h.d1 k (.inl hf)).1 hk
  cell := kp.get h.cell fun hf => (h.d1 _ (.inl hf)).2.1 rfl
  worn := by
    obtain ⟨bk, h1, h2⟩ := h.worn
    exact ⟨bk, h1, kp.get h2 fun hf => (h.d1 _ (.inl hf)).2.2.1 rfl⟩
  bads := h.bads.mono fun x hx => kp.same _ (h.bads.lt hx) fun hf => (h.d1 _ (.inl hf)).2.2.2 x.2 hx
  eB := h.eB
  d1 := h.d1
  d2 := h.d2
  d3 := h.d3
  nN := h.nN
  NL := fun k hk => Nat.lt_of_lt_of_le (h.NL k hk) kp.len
theorem WrAt.life (h : WrAt N H z a e s v sb) {H' : Heap} {f : Lf} (n : LfAt H' e f) (kp : Keep e.fp H H') : WrAt N H' z a e s { v with lf := f } sb where
  nd := h.nd.keep kp fun k hk hf => (h.d1 k hk).1 hf
  lf := n
  cell := kp.get h.cell fun hf => (h.d2 _ hf).1 rfl
  worn := by
    obtain ⟨bk, h1, h2⟩ := h.worn
    exact ⟨bk, h1, kp.get h2 fun hf => (h.d2 _ hf).2.1 rfl⟩
  bads := h.bads.mono fun x hx => kp.same _ (h.bads.lt hx) fun hf => (h.d2 _ hf).2.2 x.2 hx
  eB := h.eB
  d1 := h.d1
  d2 := h.d2
  d3 := h.d3
  nN := h.nN
  NL := fun k hk => Nat.lt_of_lt_of_le (h.NL k hk) kp.len
theorem WrAt.nc (h : WrAt N H z a e s v sb) {H' : Heap} (kp : Keep a.fp H H') : Keep (fun k => ¬ N k) H H' := kp.mono fun k hk => h.nN k (.inl (.inl hk))
theorem WrAt.nl (h : WrAt N H z a e s v sb) {H' : Heap} (kp : Keep e.fp H H') : Keep (fun k => ¬ N k) H H' := kp.mono fun k hk => h.nN k (.inr (.inl hk))
theorem WrAt.nw (h : WrAt N H z a e s v sb) {H' : Heap} (kp : Keep (fun k => k = z.w) H H') : Keep (fun k => ¬ N k) H H' := kp.mono fun k hk => h.nN k (.inr (.inr (.inl hk)))
theorem WrAt.nb (h : WrAt N H z a e s v sb) {H' : Heap} (kp : Keep (fun k => k = z.wb) H H') : Keep (fun k => ¬ N k) H H' := kp.mono fun k hk => h.nN k (.inr (.inr (.inr (.inl hk))))
/-- A count of erasures is written. -/
theorem WrAt.wi (h : WrAt N H z a e s v sb) {i : Nat} (hi : i < e.B) (x : Int) : ∃ H', wr H z.wb i [.int .i64 x] = some H' ∧ WrAt N H' z a e s { v with worn := upd v.worn i x } sb ∧ Keep (fun k => ¬ N k) H H' := by
  obtain ⟨bk, h1, h2⟩ := h.worn
  have hs := arrC_set (wrow_len v) (j := 0) (by decide) (.int .i64 x) hi
  rw [Nat.mul_one, Nat.add_zero] at hs
  have hrow : (arrC e.B v.row).set i (.int .i64 x) = arrC e.B ({ v with worn := upd v.worn i x } : Wr).row := by
    rw [hs]
    congr 1
    funext k
    by_cases hk : k = i
    · subst hk; simp [Wr.row, upd]
    · simp [Wr.row, upd, hk]
  have kp : Keep (fun k => k = z.wb) H (H.set z.wb (.cells (arrC e.B ({ v with worn := upd v.worn i x } : Wr).row) bk)) := Keep.set _ _ _ rfl
  refine ⟨_, by rw [wr1_of h2 h1 (by rw [arrC_length (wrow_len v)]; omega), hrow], ?_, h.nb kp⟩
  exact { nd := h.nd.keep kp fun k hk hf => (h.d1 k hk).2.2.1 hf, lf := h.lf.keep kp fun k hk hf => (h.d2 k hk).2.1 hf, cell := kp.get h.cell h.d3.1, worn := ⟨bk, h1, set_get (get_lt h2)⟩,
          bads := h.bads.mono fun y hy => kp.same _ (h.bads.lt hy) fun hf => h.d3.2.2 y.2 (by rw [← hf]; exact hy), eB := h.eB, d1 := h.d1, d2 := h.d2, d3 := h.d3, nN := h.nN, NL := fun k hk => Nat.lt_of_lt_of_le (h.NL k hk) kp.len }
/-- Blocks that turned bad are told no more. -/
theorem WrAt.nilB (h : WrAt N H z a e s v sb) : ∃ H', wr H z.w 3 [.sl 1 ⟨none, 0, 0⟩] = some H' ∧ WrAt N H' z a e s { v with bad := [] } ⟨none, 0, 0⟩ ∧ Keep (fun k => ¬ N k) H H' := by
  have kp : Keep (fun k => k = z.w) H (H.set z.w (.cells ((wcells z a e sb).set 3 (.sl 1 ⟨none, 0, 0⟩)) .exact)) := Keep.set _ _ _ rfl
  refine ⟨_, wr1_of h.cell (by decide) (by simp [wcells]), ?_, h.nw kp⟩
  exact { nd := h.nd.keep kp fun k hk hf => (h.d1 k hk).2.1 hf, lf := h.lf.keep kp fun k hk hf => (h.d2 k hk).1 hf, cell := by rw [set_get (get_lt h.cell)]; rfl, worn := by
            obtain ⟨bk, h1, h2⟩ := h.worn
            exact ⟨bk, h1, kp.get h2 (Ne.symm h.d3.1)⟩,
          bads := Grown.ni _ 1, eB := h.eB, d1 := fun k hk => ⟨(h.d1 k hk).1, (h.d1 k hk).2.1, (h.d1 k hk).2.2.1, fun o ho => (by cases ho)⟩, d2 := fun k hk => ⟨(h.d2 k hk).1, (h.d2 k hk).2.1, fun o ho => (by cases ho)⟩, d3 := ⟨h.d3.1, fun o ho => (by cases ho), fun o ho => (by cases ho)⟩,
          nN := fun k hk => h.nN k (by
            rcases hk with hk | hk | hk | hk | ⟨o, ho⟩
            · exact .inl hk
            · exact .inr (.inl hk)
            · exact .inr (.inr (.inl hk))
            · exact .inr (.inr (.inr (.inl hk)))
            · cases ho), NL := fun k hk => Nat.lt_of_lt_of_le (h.NL k hk) kp.len }
/-- One more block turned bad. -/
theorem WrAt.addB (h : WrAt N H z a e s v sb) (x : Int) (hl : v.bad.length < 1000000) : ∃ sb' H1 H', appS (H ++ [.cells [.int .i64 x] .exact]) 1 8 sb 1 [.int .i64 x] = some (sb', H1) ∧ wr H1 z.w 3 [.sl 1 sb'] = some H' ∧ WrAt N H' z a e s { v with bad := v.bad ++ [x] } sb' ∧ Keep (fun k => ¬ N k) H H' := by
  have hp := h.push (.cells [.int .i64 x] .exact)
  have hbl : sb.len = v.bad.length := by have := h.bads.len; simp [intC] at this; omega
  obtain ⟨a1, a2⟩ := hp.bads.app (bytes := 8) (by decide) (n := 1) (new := [.int .i64 x]) (by decide) rfl (by omega) (by omega)
  have gl := grownH_length (H ++ [.cells [.int .i64 x] .exact]) sb (intC v.bad ++ [.int .i64 x])
  have hpl : (H ++ [Blk.cells [.int .i64 x] .exact]).length = H.length + 1 := by simp
  have kg : Keep (fun k => ∃ o, sb.p = some (k, o)) (H ++ [.cells [.int .i64 x] .exact]) (grownH (H ++ [.cells [.int .i64 x] .exact]) sb (intC v.bad ++ [.int .i64 x])) :=
    ⟨by rw [gl]; omega, fun y hy hf => grownH_get hy fun q hq e => hf ⟨q.2, by rw [hq, ← e]⟩⟩
  have cg := kg.get hp.cell (fun ⟨o, ho⟩ => h.d3.2.1 o ho)
  generalize eG : grownH (H ++ [.cells [.int .i64 x] .exact]) sb (intC v.bad ++ [.int .i64 x]) = G at a1 a2 gl kg cg
  have kp : Keep (fun k => k = z.w) G (G.set z.w (.cells ((wcells z a e sb).set 3 (.sl 1 ⟨some ((H ++ [Blk.cells [.int .i64 x] .exact]).length, 0), sb.len + 1, sb.len + 1⟩)) .exact)) := Keep.set _ _ _ rfl
  have hnew : ∀ k, k < H.length → ∀ o, (some ((H ++ [Blk.cells [.int .i64 x] .exact]).length, 0) : Option (Nat × Nat)) ≠ some (k, o) := fun k hk o he => by
    have := congrArg (fun y => y.map (·.1)) he
    simp at this
    omega
  refine ⟨_, _, _, a1, wr1_of cg (by decide) (by simp [wcells]), ?_, ?_⟩
  · have n1 := hp.nd.keep kg fun k hk ⟨o, ho⟩ => (h.d1 k hk).2.2.2 o ho
    have n2 := hp.lf.keep kg fun k hk ⟨o, ho⟩ => (h.d2 k hk).2.2 o ho
    exact { nd := n1.keep kp fun k hk hf => (h.d1 k hk).2.1 hf, lf := n2.keep kp fun k hk hf => (h.d2 k hk).1 hf, cell := by rw [set_get (get_lt cg)]; rfl,
            worn := by
              obtain ⟨bk, h1, h2⟩ := hp.worn
              exact ⟨bk, h1, kp.get (kg.get h2 fun ⟨o, ho⟩ => h.d3.2.2 o ho) (Ne.symm h.d3.1)⟩,
            bads := by
              have hi : intC (v.bad ++ [x]) = intC v.bad ++ [.int .i64 x] := by simp [intC]
              show Grown _ 1 _ (intC (v.bad ++ [x]))
              rw [hi]
              exact a2.mono fun q hq => kp.same _ (a2.lt hq) (by
                cases hq
                have := get_lt h.cell
                simp; omega),
            eB := h.eB,
            d1 := fun k hk => ⟨(h.d1 k hk).1, (h.d1 k hk).2.1, (h.d1 k hk).2.2.1, fun o => hnew k (h.nd.own_lt hk) o⟩,
            d2 := fun k hk => ⟨(h.d2 k hk).1, (h.d2 k hk).2.1, fun o => hnew k (h.lf.lt hk) o⟩,
            d3 := ⟨h.d3.1, fun o => hnew _ (get_lt h.cell) o, fun o => hnew _ (h.lt (.inr (.inr (.inr (.inl rfl))))) o⟩,
            nN := fun k hk hf => by
              rcases hk with hk | hk | hk | hk | ⟨o, ho⟩
              · exact h.nN k (.inl hk) hf
              · exact h.nN k (.inr (.inl hk)) hf
              · exact h.nN k (.inr (.inr (.inl hk))) hf
              · exact h.nN k (.inr (.inr (.inr (.inl hk)))) hf
              · exact hnew k (h.NL k hf) o ho,
            NL := fun k hk => by have := h.NL k hk; have := kp.len; omega }
  · have k1 : Keep (fun k => ¬ N k) (H ++ [.cells [.int .i64 x] .exact]) G := kg.mono fun k ⟨o, ho⟩ => h.nN k (.inr (.inr (.inr (.inr ⟨o, ho⟩))))
    have k2 : Keep (fun k => ¬ N k) G _ := kp.mono fun k hk => h.nN k (.inr (.inr (.inl hk)))
    exact ((Keep.push _ _ _).trans k1).trans k2
end
end Ev

/- The writer: which block is opened. -/
namespace Ev
open Go (IntKind)

def pairC (g : Nat → Nat) (w : Nat → Int) (j : Nat) : List C := [.int .i64 (g j : Int), .int .i64 (w (g j))]
theorem pair_len (g : Nat → Nat) (w : Nat → Int) : ∀ j, (pairC g w j).length = 2 := fun _ => rfl

/-- The first of those that are least. -/
theorem least_eq {H : Heap} {t : Sl} {n : Nat} (g : Nat → Nat) (w : Nat → Int) (h : Row H 2 t (arrC n (pairC g w))) (hn : n ≤ 1000000) :
    ∃ H' r, wear_Least t H = some ((r, ()), H') ∧ Keep (fun _ => False) H H' ∧ ((n = 0 ∧ r = -1) ∨ ∃ m : Nat, m < n ∧ r = (m : Int) ∧ ∀ j, j < n → w (g m) ≤ w (g j) ∧ (j < m → w (g m) < w (g j))) := by
  have hl : t.len = n := by have := h.len; rw [arrC_length (pair_len g w)] at this; omega
  have hcell : ∀ (G : Heap), Keep (fun _ => False) H G → ∀ j, j < n → ∃ b o, Sl.at 2 t (j : Int) = some (b, o) ∧ b < H.length ∧ @Eq (Option (Int × Int × Unit)) (rd G (.agg [.int .i64, .int .i64]) b o) (some ((g j : Int), w (g j), ())) ∧ rdI .i64 G b (o + 1) = some (w (g j)) := by
    intro G hK j hj
    have hG := h.keep hK fun _ _ _ => id
    obtain ⟨b, o, hp, h1, cs, bk, h2, h3, h4⟩ := slRow_cell hG.row (i := j) (by omega) hG.nil
    have hb : b < H.length := h.lt hp
    have c0 : cs[o + j * 2]? = some (.int .i64 (g j : Int)) := by
      have := h4 0 (by decide)
      rw [Nat.add_zero] at this
      rw [this, arrC_get (pair_len g w) (j := 0) (by decide) hj]; rfl
    have c1 : cs[o + j * 2 + 1]? = some (.int .i64 (w (g j))) := by
      rw [h4 1 (by decide), arrC_get (pair_len g w) (by decide) hj]; rfl
    have hlen : o + j * 2 + 2 ≤ cs.length := by have := (List.getElem?_eq_some_iff.1 c1).1; omega
    refine ⟨b, o + j * 2, h1, hb, ?_, rdI_of h2 c1⟩
    refine rd_agg_of h2 hlen ?_
    have e : (cs.drop (o + j * 2)).take 2 = [.int .i64 (g j : Int), .int .i64 (w (g j))] := by
      apply List.ext_getElem?
      intro i
      rw [List.getElem?_take]
      by_cases hi : i < 2
      · rw [if_pos hi, List.getElem?_drop]
        match i, hi with
        | 0, _ => rw [Nat.add_zero, c0]; rfl
        | 1, _ => rw [c1]; rfl
      · rw [if_neg hi, List.getElem?_eq_none (by simp; omega)]
    show Tup.un _ ((cs.drop (o + j * 2)).take 2) = _
    rw [e]; rfl
  obtain ⟨x, H', l1, l2, l3⟩ := loopW_run (step := wear_Least.s1 t) (fun y G => ∃ i : Nat, i ≤ n ∧ y.2.1 = (i : Int) ∧ Keep (fun _ => False) H G ∧ ((i = 0 ∧ y.1 = -1) ∨ ∃ m : Nat, m < i ∧ y.1 = (m : Int) ∧ ∀ j, j < i → w (g m) ≤ w (g j) ∧ (j < m → w (g m) < w (g j))))
    (fun x G => Keep (fun _ => False) H G ∧ ((n = 0 ∧ x.1 = -1) ∨ ∃ m : Nat, m < n ∧ x.1 = (m : Int) ∧ ∀ j, j < n → w (g m) ≤ w (g j) ∧ (j < m → w (g m) < w (g j)))) (fun y _ => (n - y.2.1).toNat)
    (by
      rintro ⟨q, j, u⟩ G ⟨i, hi, rfl, hK, hq⟩
      simp only at hq
      unfold wear_Least.s1
      rw [hl]
      by_cases hlt : i < n
      · obtain ⟨b, o, h1, h2, h3, h4⟩ := hcell G hK i hlt
        have mu : ((n : Int) - ((i + 1 : Nat) : Int)).toNat < ((n : Int) - (i : Int)).toNat := by omega
        have w1 : wr (G ++ [Blk.cells [.int .i64 0, .int .i64 0] .exact]) G.length 0 [.int .i64 (g i : Int), .int .i64 (w (g i))] = some (G ++ [Blk.cells [.int .i64 (g i : Int), .int .i64 (w (g i))] .exact]) := by
          rw [wr_last (by decide) (by simp)]; rfl
        have kp : Keep (fun _ => False) H (G ++ [Blk.cells [.int .i64 (g i : Int), .int .i64 (w (g i))] .exact]) := hK.trans (Keep.push _ _ _)
        have ei := wrap_succ (show i < 9223372036854775807 by omega)
        simp only [decide_eq_true (show (i : Int) < (n : Int) by omega), cond_t, h1, bind_some, h3, w1, ei]
        rcases hq with ⟨rfl, rfl⟩ | ⟨m, hm, rfl, hmin⟩
        · simp only [show decide ((-1 : Int) < 0) = true from rfl, cond_t, Round]
          exact ⟨⟨1, by omega, rfl, kp, .inr ⟨0, by omega, rfl, fun j hj => by
            have : j = 0 := by omega
            subst this
            exact ⟨Int.le_refl _, fun h => by omega⟩⟩⟩, mu⟩
        · obtain ⟨b2, o2, m1, _, _, m4⟩ := hcell _ kp m (by omega)
          have r7 : rdI .i64 (G ++ [Blk.cells [.int .i64 (g i : Int), .int .i64 (w (g i))] .exact]) G.length 1 = some (w (g i)) := rdI_of app_last rfl
          simp only [decide_eq_false (show ¬ (m : Int) < 0 by omega), cond_f, r7, bind_some, m1, m4]
          by_cases hc : w (g i) < w (g m)
          · simp only [decide_eq_true hc, cond_t, Round]
            exact ⟨⟨i + 1, by omega, rfl, kp, .inr ⟨i, by omega, rfl, fun j hj => by
              by_cases hji : j = i
              · subst hji; exact ⟨Int.le_refl _, fun h => by omega⟩
              · have := hmin j (by omega)
                exact ⟨by omega, fun _ => by omega⟩⟩⟩, mu⟩
          · simp only [decide_eq_false hc, cond_f, Round]
            exact ⟨⟨i + 1, by omega, rfl, kp, .inr ⟨m, by omega, rfl, fun j hj => by
              by_cases hji : j = i
              · subst hji; exact ⟨by omega, fun h => by omega⟩
              · exact hmin j (by omega)⟩⟩, mu⟩
      · have : i = n := by omega
        subst this
        simp only [decide_eq_false (show ¬ (i : Int) < (i : Int) by omega), cond_f, Round]
        exact ⟨hK, hq⟩) (-1, 0, ()) H ⟨0, Nat.zero_le _, rfl, Keep.refl _ _, .inl ⟨rfl, rfl⟩⟩
  refine ⟨H', x.1, ?_, l2, l3⟩
  unfold wear_Least
  simp only [l1, bind_some]

section
variable {N : Nat → Prop} {H : Heap} {z : WrA} {a : NdA} {e : LfA} {s : Nd} {v : Wr} {sb : Sl}

/-- The free blocks, and how often each was erased. -/
theorem wears_eq (h : WrAt N H z a e s v sb) (what : Nat) (hw : H[what]? = some (.cells [.int .i64 0] .exact)) (hwo : ¬ z.own a e sb what) :
    ∃ t H' n g, write_Writer_Wears (some (z.w, 0)) ⟨some (what, 0), 1, 1⟩ H = some ((t, ()), H') ∧ Keep (fun k => H.length ≤ k) H H' ∧ Row H' 2 t (arrC n (pairC g v.worn)) ∧ n ≤ e.B ∧ (∀ j, j < n → g j < e.B ∧ v.lf.l (g j) = 0) ∧ (∀ c, c < e.B → v.lf.l c = 0 → ∃ j, j < n ∧ g j = c) ∧ ∀ i j, i < j → j < n → g i < g j := by
  have hsz := h.lf.sz
  have hcnt : ∀ (G : Heap), Keep (fun k => H.length ≤ k) H G → WrAt N G z a e s v sb := fun G kp => h.keep kp fun k hk => by have := h.lt hk; omega
  obtain ⟨x, H', l1, l2, n, g, l3, l4, l5, l6, l7⟩ := loopW_run (step := write_Writer_Wears.s1 (some (z.w, 0)) ⟨some (what, 0), 1, 1⟩ ⟨some (z.wb, 0), e.B, e.B⟩)
    (fun y G => ∃ i : Nat, i ≤ e.B ∧ y.2.1 = (i : Int) ∧ Keep (fun k => H.length ≤ k) H G ∧ (∀ q, y.1.p = some q → H.length ≤ q.1) ∧ ∃ n g, Grown G 2 y.1 (arrC n (pairC g v.worn)) ∧ n ≤ i ∧ (∀ j, j < n → g j < i ∧ v.lf.l (g j) = 0) ∧ (∀ c, c < i → v.lf.l c = 0 → ∃ j, j < n ∧ g j = c) ∧ ∀ i j, i < j → j < n → g i < g j)
    (fun x G => Keep (fun k => H.length ≤ k) H G ∧ ∃ n g, Row G 2 x.1 (arrC n (pairC g v.worn)) ∧ n ≤ e.B ∧ (∀ j, j < n → g j < e.B ∧ v.lf.l (g j) = 0) ∧ (∀ c, c < e.B → v.lf.l c = 0 → ∃ j, j < n ∧ g j = c) ∧ ∀ i j, i < j → j < n → g i < g j) (fun y _ => (e.B - y.2.1).toNat)
    (by
      rintro ⟨q, j, u⟩ G ⟨i, hi, rfl, hK, hq, n, g, hg, hni, g1, g2, g3⟩
      simp only at hq hg
      unfold write_Writer_Wears.s1
      by_cases hlt : i < e.B
      · have hG := hcnt G hK
        have hwG : G[what]? = some (.cells [.int .i64 0] .exact) := hK.get hw (by have := get_lt hw; omega)
        have hrow : Row G 1 ⟨some (what, 0), 1, 1⟩ (intC [0]) := ⟨by unfold slRow Heap.row; simp only [hwG]; rw [cut_of (by decide)]; rfl, fun h => by cases h⟩
        have hcon := contains_eq hrow (by decide) (v.lf.l i)
        have mu : ((e.B : Int) - ((i + 1 : Nat) : Int)).toNat < ((e.B : Int) - (i : Int)).toNat := by omega
        have ei := wrap_succ (show i < 9223372036854775807 by omega)
        simp only [decide_eq_true (show (i : Int) < (e.B : Int) by omega), cond_t, WrAt.wat i hlt, bind_some, hG.ri hlt, Nat.zero_add, hG.rl, life_Is hG.lf hlt, hcon, ei]
        by_cases hf : v.lf.l i = 0
        · have hgp := hg.push (.cells [.int .i64 (i : Int), .int .i64 (v.worn i)] .exact)
          have hlen : q.len = n := by have := hg.len; rw [arrC_length (pair_len g v.worn)] at this; omega
          obtain ⟨a1, a2⟩ := hgp.app (bytes := 16) (by decide) (n := 1) (new := [.int .i64 (i : Int), .int .i64 (v.worn i)]) (by decide) rfl (by omega) (by omega)
          have hr : slRow (G ++ [.cells [.int .i64 (i : Int), .int .i64 (v.worn i)] .exact]) 2 ⟨some (G.length, 0), 1, 1⟩ = some [.int .i64 (i : Int), .int .i64 (v.worn i)] := row_last rfl
          have gl := grownH_length (G ++ [.cells [.int .i64 (i : Int), .int .i64 (v.worn i)] .exact]) q (arrC n (pairC g v.worn) ++ [.int .i64 (i : Int), .int .i64 (v.worn i)])
          have hGl := hK.len
          have hpl : (G ++ [Blk.cells [.int .i64 (i : Int), .int .i64 (v.worn i)] .exact]).length = G.length + 1 := by simp
          have kg : Keep (fun k => H.length ≤ k) (G ++ [.cells [.int .i64 (i : Int), .int .i64 (v.worn i)] .exact]) (grownH (G ++ [.cells [.int .i64 (i : Int), .int .i64 (v.worn i)] .exact]) q (arrC n (pairC g v.worn) ++ [.int .i64 (i : Int), .int .i64 (v.worn i)])) :=
            ⟨by rw [gl]; omega, fun y hy hf => grownH_get hy fun x hx e => hf (by rw [← e]; exact hq x hx)⟩
          have harr : arrC n (pairC g v.worn) ++ [.int .i64 (i : Int), .int .i64 (v.worn i)] = arrC (n + 1) (pairC (fun j => if j = n then i else g j) v.worn) := by
            rw [arrC]
            congr 1
            · exact arrC_congr fun j hj => by unfold pairC; simp only [if_neg (show ¬ j = n by omega)]
            · unfold pairC; simp only [if_true]
          rw [harr] at a1 a2 kg
          have hd : decide (v.lf.l i ∈ [(0 : Int)]) = true := decide_eq_true (by simp [hf])
          simp only [hd, cond_t, hr, bind_some, a1, Round]
          refine ⟨⟨i + 1, by omega, rfl, (hK.trans (Keep.push _ _ _)).trans kg, fun x hx => by cases hx; simp; omega, n + 1, fun j => if j = n then i else g j, a2, by omega, ?_, ?_, ?_⟩, mu⟩
          · intro j hj
            simp only
            split
            · exact ⟨by omega, hf⟩
            · have := g1 j (by omega); exact ⟨by omega, this.2⟩
          · intro c hc hc0
            by_cases hci : c = i
            · exact ⟨n, by omega, by simp [hci]⟩
            · obtain ⟨j, hj, hjc⟩ := g2 c (by omega) hc0
              exact ⟨j, by omega, by simp only [if_neg (show ¬ j = n by omega)]; exact hjc⟩
          · intro i1 j1 h12 hj1
            simp only
            rw [if_neg (show ¬ i1 = n by omega)]
            split
            · exact (g1 i1 (by omega)).1
            · exact g3 i1 j1 h12 (by omega)
        · have hd : decide (v.lf.l i ∈ [(0 : Int)]) = false := decide_eq_false (by simp [hf])
          simp only [hd, cond_f, Round]
          refine ⟨⟨i + 1, by omega, rfl, hK, hq, n, g, hg, by omega, fun j hj => ⟨by have := (g1 j hj).1; omega, (g1 j hj).2⟩, fun c hc hc0 => ?_, g3⟩, mu⟩
          by_cases hci : c = i
          · subst hci; exact absurd hc0 hf
          · exact g2 c (by omega) hc0
      · have : i = e.B := by omega
        subst this
        simp only [decide_eq_false (show ¬ (e.B : Int) < (e.B : Int) by omega), cond_f, Round]
        exact ⟨hK, n, g, Row.grown hg, hni, g1, g2, g3⟩) (⟨none, 0, 0⟩, 0, ()) H ⟨0, Nat.zero_le _, rfl, Keep.refl _ _, fun x hx => (by cases hx), 0, fun _ => 0, Grown.ni H 2, Nat.le_refl _, fun j hj => absurd hj (by omega), fun c hc => absurd hc (by omega), fun i j _ hj => absurd hj (by omega)⟩
  refine ⟨x.1, H', n, g, ?_, l2, l3, l4, l5, l6, l7⟩
  unfold write_Writer_Wears
  simp only [Option.isNone_some, cond_f, bind_some, Nat.zero_add, h.rw', l1]

/-- What opening does. -/
def Opened (e : LfA) (v : Wr) (r : Bool) (v' : Wr) : Prop :=
  (0 ≤ v.lf.op ∧ r = true ∧ v' = v) ∨ (v.lf.op < 0 ∧ r = true ∧ ∃ b, b < e.B ∧ v.lf.l b = 0 ∧ (∀ c, c < e.B → v.lf.l c = 0 → v.worn b ≤ v.worn c ∧ (c < b → v.worn b < v.worn c)) ∧ v' = { v with lf := ⟨upd v.lf.l b 1, (b : Int), 0⟩ }) ∨ (v.lf.op < 0 ∧ r = false ∧ (∀ i, i < e.B → v.lf.l i ≠ 0) ∧ v' = v)
theorem write_open (h : WrAt N H z a e s v sb) : ∃ H' r v', write_Writer_open (some (z.w, 0)) H = some ((r, ()), H') ∧ WrAt N H' z a e s v' sb ∧ Keep (fun k => ¬ N k) H H' ∧ Opened e v r v' := by
  unfold write_Writer_open
  have ha := life_At h.lf
  unfold Lf.at at ha
  by_cases ho : v.lf.op < 0
  · rw [if_pos ho] at ha
    have hp := h.push (.cells [.int .i64 0] .exact)
    obtain ⟨t, H1, n, g, w1, w2, w3, w4, w5, w6, w7⟩ := wears_eq hp H.length app_last (fun hk => by have := h.lt hk; omega)
    obtain ⟨H2, r, m1, m2, m3⟩ := least_eq g v.worn w3 (by have := h.lf.sz; omega)
    have h1 : WrAt N H1 z a e s v sb := hp.keep w2 fun k hk => by have := hp.lt hk; omega
    have h2 : WrAt N H2 z a e s v sb := h1.keep m2 fun _ _ => id
    have k2 : Keep (fun k => ¬ N k) H H2 := ((Keep.push _ _ _).trans (w2.mono fun k hk hn => by have := hp.NL k hn; omega)).trans (m2.mono fun _ hf => hf.elim)
    simp only [bind_some, Nat.zero_add, h.rl, ha, cond_f, w1, m1]
    rcases m3 with ⟨h0, rfl⟩ | ⟨m, hm, rfl, hmin⟩
    · refine ⟨H2, false, v, ?_, h2, k2, .inr (.inr ⟨ho, rfl, fun i hi hf => ?_, rfl⟩)⟩
      · simp only [show decide (0 ≤ (-1 : Int)) = false from rfl, cond_f]
      · obtain ⟨j, hj, _⟩ := w6 i hi hf
        omega
    · have hr2 : Row H2 2 t (arrC n (pairC g v.worn)) := w3.keep m2 fun _ _ _ => id
      obtain ⟨b, o, hpt, hat, cs, bk, c1, c2, c3⟩ := slRow_cell hr2.row (i := m) (by have := hr2.len; rw [arrC_length (pair_len g v.worn)] at this; omega) hr2.nil
      have hcell : rdI .i64 H2 b (o + m * 2) = some (g m : Int) := rdI_of c1 (by
        have := c3 0 (by decide)
        rw [Nat.add_zero] at this
        rw [this, arrC_get (pair_len g v.worn) (j := 0) (by decide) hm]; rfl)
      obtain ⟨gB, gf⟩ := w5 m hm
      obtain ⟨H3, o1, o2, o3⟩ := life_Open h2.lf gB gf ho
      refine ⟨H3, true, _, ?_, h2.life o2 o3, k2.trans (h2.nl o3), .inr (.inl ⟨ho, rfl, g m, gB, gf, fun c hc hc0 => ?_, rfl⟩)⟩
      · simp only [decide_eq_true (show 0 ≤ (m : Int) by omega), cond_t, h2.rl, bind_some, hat, hcell, o1]
      · obtain ⟨j, hj, rfl⟩ := w6 c hc hc0
        have := hmin j hj
        refine ⟨this.1, fun hlt => this.2 ?_⟩
        by_cases hjm : j < m
        · exact hjm
        · by_cases he : j = m
          · subst he; omega
          · have := w7 m j (by omega) hj
            omega
  · rw [if_neg ho] at ha
    refine ⟨H, true, v, ?_, h, Keep.refl _ _, .inl ⟨by omega, rfl, rfl⟩⟩
    simp only [bind_some, Nat.zero_add, h.rl, ha, cond_t]
end
end Ev

/- The writer: erasing; a block that fails. -/
namespace Ev
open Go (IntKind)

section
variable {N : Nat → Prop} {H : Heap} {z : WrA} {a : NdA} {e : LfA} {s : Nd} {v : Wr} {sb : Sl} {D : Int}

def Wr.spoilt (v : Wr) (b : Nat) : Wr := ⟨v.lf.set b 3, v.worn, v.bad ++ [(b : Int)]⟩
theorem write_spoil (h : WrAt N H z a e s v sb) (w : Wf a s D) {b : Nat} (hb : b < e.B) (hl : v.bad.length < 1000000) :
    ∃ H' sb', write_Writer_spoil (some (z.w, 0)) (b : Int) H = some (((s.markT a (b : Int)).1, ()), H') ∧ WrAt N H' z a e (s.markT a (b : Int)).2 (v.spoilt b) sb' ∧ Keep (fun k => ¬ N k) H H' := by
  obtain ⟨H1, a1, a2, a3⟩ := life_Bad h.lf hb
  have h1 := h.life a2 a3
  obtain ⟨sb', H2, H3, b1, b2, b3, b4⟩ := h1.addB (b : Int) hl
  obtain ⟨H4, c1, c2, c3⟩ := nand_markT b3.nd w (b : Int)
  have h4 := b3.chip c2 c3
  refine ⟨H4, sb', ?_, h4, ((h.nl a3).trans b4).trans (b3.nc c3)⟩
  have hr : slRow (H1 ++ [.cells [.int .i64 (b : Int)] .exact]) 1 ⟨some (H1.length, 0), 1, 1⟩ = some [.int .i64 (b : Int)] := row_last rfl
  unfold write_Writer_spoil
  simp only [bind_some, Nat.zero_add, h.rl, a1, h1.rb, hr, b1, b2, b3.rc, c1]

/-- What erasing comes to. -/
def eraseW (a : NdA) (s : Nd) (v : Wr) (i : Nat) : Int × Nd × Wr :=
  if (s.eraseT a (i : Int)).1 = 0 then (0, (s.eraseT a (i : Int)).2, { v with worn := upd v.worn i (v.worn i + 1), lf := v.lf.set i 0 })
  else if (s.eraseT a (i : Int)).1 = 54 then (((s.eraseT a (i : Int)).2.markT a (i : Int)).1, ((s.eraseT a (i : Int)).2.markT a (i : Int)).2, v.spoilt i)
  else ((s.eraseT a (i : Int)).1, (s.eraseT a (i : Int)).2, v)
theorem write_Erase (h : WrAt N H z a e s v sb) (w : Wf a s D) (hD : D < 1000000) {i : Nat} (hi : i < e.B) (h0 : 0 ≤ v.lf.l i) (hl : v.bad.length < 1000000) (hw : -1 ≤ v.worn i ∧ v.worn i < 1000000) :
    ∃ H' sb', write_Writer_Erase (some (z.w, 0)) (i : Int) H = some (((eraseW a s v i).1, ()), H') ∧ WrAt N H' z a e (eraseW a s v i).2.1 (eraseW a s v i).2.2 sb' ∧ Keep (fun k => ¬ N k) H H' := by
  obtain ⟨H1, a1, a2, a3⟩ := nand_eraseT h.nd w (i : Int)
  have w1 := (w.eraseT hD (i : Int)).1
  have h1 := h.chip a2 a3
  unfold write_Writer_Erase eraseW
  simp only [Option.isNone_some, cond_f, bind_some, Nat.zero_add, h.rl, life_Is h.lf hi, decide_eq_false (show ¬ v.lf.l i < 0 by omega), h.rc, a1]
  generalize s.eraseT a (i : Int) = pr at *
  by_cases e0 : pr.1 = 0
  · obtain ⟨H2, b1, b2, b3⟩ := h1.wi hi (v.worn i + 1)
    obtain ⟨H3, c1, c2, c3⟩ := life_Free b2.lf hi
    rw [if_pos e0]
    refine ⟨H3, sb, ?_, b2.life c2 c3, ((h.nc a3).trans b3).trans (b2.nl c3)⟩
    have ew : IntKind.wrap .i64 (v.worn i + 1) = v.worn i + 1 := wrap_i64 (by omega) (by omega)
    simp only [decide_eq_true e0, cond_t, h1.rw', bind_some, WrAt.wat i hi, h1.ri hi, ew, b1, b2.rl, c1]
  · rw [if_neg e0]
    by_cases e54 : pr.1 = 54
    · obtain ⟨H2, sb', b1, b2, b3⟩ := write_spoil h1 w1 hi hl
      rw [if_pos e54]
      refine ⟨H2, sb', ?_, b2, (h.nc a3).trans b3⟩
      simp only [decide_eq_false e0, cond_f, decide_eq_true e54, cond_t, b1, bind_some]
    · rw [if_neg e54]
      refine ⟨H1, sb, ?_, h1, h.nc a3⟩
      simp only [decide_eq_false e0, cond_f, decide_eq_false e54]

theorem write_Life (h : WrAt N H z a e s v sb) : write_Writer_Life (some (z.w, 0)) H = some ((some (e.c, 0), ()), H) := by
  unfold write_Writer_Life
  simp only [Option.isNone_some, cond_f, bind_some, Nat.zero_add, h.rl]
theorem write_Bads (h : WrAt N H z a e s v sb) : ∃ H', write_Writer_Bads (some (z.w, 0)) H = some ((sb, ()), H') ∧ WrAt N H' z a e s { v with bad := [] } ⟨none, 0, 0⟩ ∧ Keep (fun k => k = z.w) H H' ∧ Row H' 1 sb (intC v.bad) := by
  have kp : Keep (fun k => k = z.w) H (H.set z.w (.cells ((wcells z a e sb).set 3 (.sl 1 ⟨none, 0, 0⟩)) .exact)) := Keep.set _ _ _ rfl
  obtain ⟨H', w1, w2, w3⟩ := h.nilB
  have hH : H' = H.set z.w (.cells ((wcells z a e sb).set 3 (.sl 1 ⟨none, 0, 0⟩)) .exact) := by
    have := wr1_of (o := 3) (c := .sl 1 ⟨none, 0, 0⟩) h.cell (by decide) (by simp [wcells])
    rw [w1] at this
    exact Option.some.inj this
  subst hH
  refine ⟨_, ?_, w2, kp, (Row.grown h.bads).keep kp fun b o hp hf => h.d3.2.1 o (by rw [← hf]; exact hp)⟩
  unfold write_Writer_Bads
  simp only [Option.isNone_some, cond_f, bind_some, Nat.zero_add, h.rb, w1]
theorem write_Worn (h : WrAt N H z a e s v sb) : ∃ t H', write_Writer_Worn (some (z.w, 0)) H = some ((t, ()), H') ∧ Row H' 1 t (arrC e.B v.row) ∧ Keep (fun _ => False) H H' ∧ t.len = e.B := by
  have hsz := h.lf.sz
  obtain ⟨bk, h1, h2⟩ := h.worn
  have hr : Row H 1 ⟨some (z.wb, 0), e.B, e.B⟩ (arrC e.B v.row) := ⟨by
    unfold slRow Heap.row
    simp only [h2, Nat.mul_one]
    rw [cut_all (by rw [arrC_length (wrow_len v)]; omega)], fun hh => by cases hh⟩
  obtain ⟨t, H', c1, c2, c3, c4, _⟩ := clone_int hr (by show e.B ≤ _; omega)
  refine ⟨t, H', ?_, c2, c3, c4⟩
  unfold write_Writer_Worn
  simp only [Option.isNone_some, cond_f, bind_some, Nat.zero_add, h.rw', c1]
end
end Ev

/- The writer: a page is written. -/
namespace Ev
open Go (IntKind)

def Tg.worn (t : Tg) (n : Int) : Tg := (t.1, t.2.1, t.2.2.1, t.2.2.2.1, n, ())
/-- A page of a block is tried. -/
def tryW (a : NdA) (s : Nd) (t : Tg) (x : Bytes) (v : Wr) (b : Nat) : Int × Nd := s.progT a (b : Int) (v.lf.nx : Int) (dataOf x a.S) (spareOf (t.worn (v.worn b)) x a.S)

section
variable {N : Nat → Prop} {H : Heap} {z : WrA} {a : NdA} {e : LfA} {s : Nd} {v : Wr} {sb : Sl} {D : Int}

/-- What one round asks for, and what it comes to; J: what holds ahead of a round; Q: what is told. -/
def RoundW (a : NdA) (e : LfA) (t : Tg) (x : Bytes) (J : Nd → Wr → Prop) (Q : Nd → Wr → Int → Int → Prop) (μ : Nd → Wr → Nat) (s : Nd) (v : Wr) : Prop :=
  (∃ D, Wf a s D ∧ D + 5 ≤ 1000000) ∧ v.bad.length < 1000000 ∧ ∀ r v1, Opened e v r v1 → (r = false → Q s v1 0 130) ∧ (r = true → ∃ b, b < e.B ∧ v1.lf.op = (b : Int) ∧ v1.lf.nx < 1000 ∧ tagOK (t.worn (v1.worn b)) = true ∧
    ((tryW a s t x v1 b).1 = 0 → Q (tryW a s t x v1 b).2 { v1 with lf := v1.lf.took e b } ((b * a.P + v1.lf.nx : Nat) : Int) 0) ∧
    ((tryW a s t x v1 b).1 = 53 → (((tryW a s t x v1 b).2.markT a (b : Int)).1 ≠ 0 → Q ((tryW a s t x v1 b).2.markT a (b : Int)).2 (({ v1 with lf := v1.lf.took e b } : Wr).spoilt b) 0 ((tryW a s t x v1 b).2.markT a (b : Int)).1) ∧
      (((tryW a s t x v1 b).2.markT a (b : Int)).1 = 0 → J ((tryW a s t x v1 b).2.markT a (b : Int)).2 (({ v1 with lf := v1.lf.took e b } : Wr).spoilt b) ∧ μ ((tryW a s t x v1 b).2.markT a (b : Int)).2 (({ v1 with lf := v1.lf.took e b } : Wr).spoilt b) < μ s v)) ∧
    ((tryW a s t x v1 b).1 = 52 → J (tryW a s t x v1 b).2 { v1 with lf := (v1.lf.took e b).set b 2 } ∧ μ (tryW a s t x v1 b).2 { v1 with lf := (v1.lf.took e b).set b 2 } < μ s v) ∧
    ((tryW a s t x v1 b).1 ≠ 0 → (tryW a s t x v1 b).1 ≠ 53 → (tryW a s t x v1 b).1 ≠ 52 → Q (tryW a s t x v1 b).2 { v1 with lf := v1.lf.took e b } 0 (tryW a s t x v1 b).1))

theorem write_Append_no (h : WrAt N H z a e s v sb) {t : Tg} {x : Bytes} (hno : tagOK (t.worn 0) = false ∨ a.S < x.length) : ∃ H', write_Writer_Append (some (z.w, 0)) t x H = some ((0, 1, ()), H') ∧ WrAt N H' z a e s v sb ∧ Keep (fun _ => False) H H' := by
  have h1 := h.push (tagB t)
  obtain ⟨G, g1, g2, g3⟩ := nand_geometry h1.nd
  have hg := h1.keep g3 fun _ _ => id
  let zB : Blk := .cells [.int .i64 (a.B : Int), .int .i64 (a.P : Int), .int .i64 (a.S : Int)] .exact
  have w1 : wr (G ++ [Blk.cells [.int .i64 0, .int .i64 0, .int .i64 0] .exact]) G.length 0 [.int .i64 (a.B : Int), .int .i64 (a.P : Int), .int .i64 (a.S : Int)] = some (G ++ [zB]) := by
    rw [wr_last (by decide) (by simp)]; rfl
  have ht0 : G[H.length]? = some (tagB t) := g3.get app_last id
  have hlG := get_lt ht0
  have ht : (G ++ [zB])[H.length]? = some (tagB t) := by rw [app_lt hlG]; exact ht0
  have w2 : wr (G ++ [zB]) H.length 4 [.int .i64 0] = some ((G ++ [zB]).set H.length (tagB (t.worn 0))) := wr1_of ht (by decide) (by simp)
  have r1 : @Eq (Option Tg) (rd ((G ++ [zB]).set H.length (tagB (t.worn 0))) (.agg [.int .i64, .int .u64, .int .i64, .int .i64, .int .i64]) H.length 0) (some (t.worn 0)) := rd_tag (set_get (get_lt ht))
  have r2 : rdI .i64 ((G ++ [zB]).set H.length (tagB (t.worn 0))) G.length 2 = some (a.S : Int) := rdI_of (by rw [set_get' (by omega)]; exact app_last) rfl
  have fr : page_Frame (t.worn 0) x (a.S : Int) = some ([], [], 1, ()) := page_Frame_no (by
    rcases hno with hh | hh
    · exact .inl hh
    · exact .inr (.inr (.inr (by omega))))
  have kp : Keep (fun k => k = H.length) (G ++ [zB]) ((G ++ [zB]).set H.length (tagB (t.worn 0))) := Keep.set _ _ _ rfl
  refine ⟨_, ?_, (hg.push zB).keep kp fun k hk hf => by have := h.lt hk; omega, ?_⟩
  · have q1 : H ++ [Blk.cells [.int .i64 t.1, .int .u64 t.2.1, .int .i64 t.2.2.1, .int .i64 t.2.2.2.1, .int .i64 t.2.2.2.2.1] .exact] = H ++ [tagB t] := rfl
    unfold write_Writer_Append
    have fr' : page_Frame ((t.worn 0).1, (t.worn 0).2.1, (t.worn 0).2.2.1, (t.worn 0).2.2.2.1, (t.worn 0).2.2.2.2.1, ()) x (a.S : Int) = some ([], [], 1, ()) := fr
    have hd : (!decide ((1 : Int) = 0)) = true := rfl
    simp only [q1, Option.isNone_some, cond_f, bind_some, Nat.zero_add, h1.rc, g1, w1, w2, r1, r2, fr', hd, cond_t]
  · have k1 : Keep (fun _ => False) H (G ++ [zB]) := ((Keep.push _ _ _).trans g3).trans (Keep.push _ _ _)
    exact ⟨by have := k1.len; have := kp.len; omega, fun k hk _ => by rw [kp.same k (by have := k1.len; omega) (by omega), k1.same k hk id]⟩

theorem write_Append_run {J : Nd → Wr → Prop} {Q : Nd → Wr → Int → Int → Prop} (μ : Nd → Wr → Nat) {t : Tg} {x : Bytes} (h : WrAt N H z a e s v sb) (ht0 : tagOK (t.worn 0) = true) (hseq : 0 ≤ t.2.1 ∧ t.2.1 < 18446744073709551616) (hx : x.length ≤ a.S) (hS : a.S ≤ 1000 ∧ a.B ≤ 1000 ∧ a.P ≤ 1000)
    (hj : J s v) (hr : ∀ s v, J s v → RoundW a e t x J Q μ s v) :
    ∃ H' at' er s' v' sb', write_Writer_Append (some (z.w, 0)) t x H = some ((at', er, ()), H') ∧ WrAt N H' z a e s' v' sb' ∧ Keep (fun k => ¬ N k) H H' ∧ Q s' v' at' er := by
  have h1 := h.push (tagB t)
  obtain ⟨G, g1, g2, g3⟩ := nand_geometry h1.nd
  have hg := h1.keep g3 fun _ _ => id
  let zB : Blk := .cells [.int .i64 (a.B : Int), .int .i64 (a.P : Int), .int .i64 (a.S : Int)] .exact
  have w1 : wr (G ++ [Blk.cells [.int .i64 0, .int .i64 0, .int .i64 0] .exact]) G.length 0 [.int .i64 (a.B : Int), .int .i64 (a.P : Int), .int .i64 (a.S : Int)] = some (G ++ [zB]) := by
    rw [wr_last (by decide) (by simp)]; rfl
  have htg0 : G[H.length]? = some (tagB t) := g3.get app_last id
  have hlG := get_lt htg0
  have htg : (G ++ [zB])[H.length]? = some (tagB t) := by rw [app_lt hlG]; exact htg0
  have w2 : wr (G ++ [zB]) H.length 4 [.int .i64 0] = some ((G ++ [zB]).set H.length (tagB (t.worn 0))) := wr1_of htg (by decide) (by simp)
  have kp : Keep (fun k => k = H.length) (G ++ [zB]) ((G ++ [zB]).set H.length (tagB (t.worn 0))) := Keep.set _ _ _ rfl
  generalize eG7 : (G ++ [zB]).set H.length (tagB (t.worn 0)) = G7 at w2 kp
  have htag7 : G7[H.length]? = some (tagB (t.worn 0)) := by rw [← eG7]; exact set_get (get_lt htg)
  have hgeo7 : G7[G.length]? = some zB := by rw [← eG7, set_get' (by omega)]; exact app_last
  have h7 : WrAt N G7 z a e s v sb := (hg.push zB).keep kp fun k hk hf => by have := h.lt hk; omega
  let M : Nat → Prop := fun k => N k ∨ k = H.length ∨ k = G.length
  have hlt7 := get_lt hgeo7
  have h7' : WrAt M G7 z a e s v sb := h7.more (fun k hk hm => by
    have := h.lt hk
    rcases hm with hm | hm | hm
    · exact h.nN k hk hm
    · omega
    · omega) (fun k hm => by
    rcases hm with hm | hm | hm
    · exact h7.NL k hm
    · omega
    · omega)
  have r1 : @Eq (Option Tg) (rd G7 (.agg [.int .i64, .int .u64, .int .i64, .int .i64, .int .i64]) H.length 0) (some (t.worn 0)) := rd_tag htag7
  have r2 : rdI .i64 G7 G.length 2 = some (a.S : Int) := rdI_of hgeo7 rfl
  have fr : page_Frame (t.worn 0) x (a.S : Int) = some (dataOf x a.S, spareOf (t.worn 0) x a.S, 0, ()) := page_Frame_yes ht0 hseq (by omega) hx
  have k7 : Keep (fun k => ¬ N k) H G7 := by
    have k1 : Keep (fun _ => False) H (G ++ [zB]) := ((Keep.push _ _ _).trans g3).trans (Keep.push _ _ _)
    exact ⟨by have := k1.len; have := kp.len; omega, fun k hk _ => by rw [kp.same k (by have := k1.len; omega) (by omega), k1.same k hk id]⟩
  obtain ⟨y, H', l1, s', v', sb', l2, l3, l4⟩ : ∃ y H', loopW (write_Writer_Append.s1 (some (z.w, 0)) x H ((((a.B : Int), (a.P : Int), (a.S : Int), ()), ()), G)) () G7 = some (y, H') ∧ ∃ s' v' sb', WrAt M H' z a e s' v' sb' ∧ Keep (fun k => ¬ N k) G7 H' ∧ Q s' v' (Sum.elim (fun _ => 0) (fun q => q.1) y) (Sum.elim (fun _ => 130) (fun q => q.2.1) y) := by
    have key : ∀ n, ∀ (s : Nd) (v : Wr) (sb : Sl) (A : Heap) (c : Int), μ s v ≤ n → J s v → WrAt M A z a e s v sb → A[H.length]? = some (tagB (t.worn c)) → A[G.length]? = some zB → ∃ m y H', iter (write_Writer_Append.s1 (some (z.w, 0)) x H ((((a.B : Int), (a.P : Int), (a.S : Int), ()), ()), G)) m () A = some (y, H') ∧ ∃ s' v' sb', WrAt M H' z a e s' v' sb' ∧ Keep (fun k => ¬ N k) A H' ∧ Q s' v' (Sum.elim (fun _ => 0) (fun q => q.1) y) (Sum.elim (fun _ => 130) (fun q => q.2.1) y) := by
      have ground : ∀ (s : Nd) (v : Wr) (sb : Sl) (A : Heap) (c : Int), J s v → WrAt M A z a e s v sb → A[H.length]? = some (tagB (t.worn c)) → A[G.length]? = some zB →
          (∃ y A', write_Writer_Append.s1 (some (z.w, 0)) x H ((((a.B : Int), (a.P : Int), (a.S : Int), ()), ()), G) () A = some (.inr y, A') ∧ ∃ s' v' sb', WrAt M A' z a e s' v' sb' ∧ Keep (fun k => ¬ N k) A A' ∧ Q s' v' (Sum.elim (fun _ => 0) (fun q => q.1) y) (Sum.elim (fun _ => 130) (fun q => q.2.1) y)) ∨
          (∃ A' s' v' sb' c', write_Writer_Append.s1 (some (z.w, 0)) x H ((((a.B : Int), (a.P : Int), (a.S : Int), ()), ()), G) () A = some (.inl (), A') ∧ J s' v' ∧ μ s' v' < μ s v ∧ WrAt M A' z a e s' v' sb' ∧ Keep (fun k => ¬ N k) A A' ∧ A'[H.length]? = some (tagB (t.worn c')) ∧ A'[G.length]? = some zB) := by
        intro s v sb A c hJ hA htA hgA
        have mN : ∀ {X Y : Heap}, Keep (fun k => ¬ M k) X Y → Keep (fun k => ¬ N k) X Y := fun k => k.mono fun j hj hn => hj (.inl hn)
        obtain ⟨⟨D, wf, hD⟩, hbl, hround⟩ := hr s v hJ
        obtain ⟨A1, r, v1, o1, o2, o3, o4⟩ := write_open hA
        have hbad : v1.bad = v.bad := by
          rcases o4 with ⟨_, _, rfl⟩ | ⟨_, _, b, _, _, _, rfl⟩ | ⟨_, _, _, rfl⟩ <;> rfl
        cases r with
        | false =>
          refine .inl ⟨.inl (), A1, ?_, s, v1, sb, o2, mN o3, (hround false v1 o4).1 rfl⟩
          unfold write_Writer_Append.s1
          simp only [o1, bind_some, cond_f]
        | true =>
          obtain ⟨b, hb, hop, hnx, htok, c0, c53, c52, cx⟩ := (hround true v1 o4).2 rfl
          obtain ⟨A2, t1, t2, t3⟩ := life_Take o2.lf hb hop hnx
          have h2 := o2.life t2 t3
          have k2 : Keep (fun k => ¬ M k) A A2 := o3.trans (o2.nl t3)
          have htA2 := k2.get htA (fun hm => hm (.inr (.inl rfl)))
          have hgA2 := k2.get hgA (fun hm => hm (.inr (.inr rfl)))
          have w3 : wr A2 H.length 4 [.int .i64 (v1.worn b)] = some (A2.set H.length (tagB (t.worn (v1.worn b)))) := wr1_of htA2 (by decide) (by simp)
          have kp3 : Keep (fun k => k = H.length) A2 (A2.set H.length (tagB (t.worn (v1.worn b)))) := Keep.set _ _ _ rfl
          generalize eA3 : A2.set H.length (tagB (t.worn (v1.worn b))) = A3 at w3 kp3
          have htA3 : A3[H.length]? = some (tagB (t.worn (v1.worn b))) := by rw [← eA3]; exact set_get (get_lt htA2)
          have hgA3 : A3[G.length]? = some zB := by rw [← eA3, set_get' (by omega)]; exact hgA2
          have h3 : WrAt M A3 z a e s { v1 with lf := v1.lf.took e b } sb := h2.keep kp3 fun k hk hf => h2.nN k hk (.inr (.inl hf))
          have nH : ¬ N H.length := fun hn => by have := h.NL _ hn; omega
          have k3 : Keep (fun k => ¬ N k) A A3 := (mN k2).trans (kp3.mono fun k hk => by rw [hk]; exact nH)
          have rt : @Eq (Option Tg) (rd A3 (.agg [.int .i64, .int .u64, .int .i64, .int .i64, .int .i64]) H.length 0) (some (t.worn (v1.worn b))) := rd_tag htA3
          have rS : rdI .i64 A3 G.length 2 = some (a.S : Int) := rdI_of hgA3 rfl
          have frb : page_Frame ((t.worn (v1.worn b)).1, (t.worn (v1.worn b)).2.1, (t.worn (v1.worn b)).2.2.1, (t.worn (v1.worn b)).2.2.2.1, (t.worn (v1.worn b)).2.2.2.2.1, ()) x (a.S : Int) = some (dataOf x a.S, spareOf (t.worn (v1.worn b)) x a.S, 0, ()) := page_Frame_yes htok hseq (by omega) hx
          obtain ⟨A4, p1, p2, p3⟩ := nand_programT h3.nd wf (b : Int) (v1.lf.nx : Int) (dataOf x a.S) (spareOf (t.worn (v1.worn b)) x a.S)
          have wf4 := (wf.progT (by omega) (b : Int) (v1.lf.nx : Int) (dataOf x a.S) (spareOf (t.worn (v1.worn b)) x a.S)).1
          have etry : s.progT a (b : Int) (v1.lf.nx : Int) (dataOf x a.S) (spareOf (t.worn (v1.worn b)) x a.S) = tryW a s t x v1 b := rfl
          rw [etry] at p1 p2 wf4
          have h4 := h3.chip p2 p3
          have k4 := k3.trans (mN (h3.nc p3))
          have k4M := h3.nc p3
          have htA4 := k4M.get htA3 (fun hm => hm (.inr (.inl rfl)))
          have hgA4 := k4M.get hgA3 (fun hm => hm (.inr (.inr rfl)))
          have pre : ∀ {R : Option (((Unit) ⊕ ((Unit) ⊕ (Int × Int × Unit))) × Heap)}, (cond (decide ((tryW a s t x v1 b).1 = 0)) ((rdI .i64 A4 G.length 1).bind fun (v28 : Int) => some (Sum.inr (Sum.inr ((IntKind.wrap .i64 ((IntKind.wrap .i64 ((b : Int) * v28)) + (v1.lf.nx : Int))), 0, ())), A4)) (
 cond (decide ((tryW a s t x v1 b).1 = 53)) (
 (write_Writer_spoil (some (z.w, 0)) (b : Int) A4).bind fun (r29 : ((Int × Unit) × Heap)) =>
 cond (!decide (r29.1.1 = 0)) (
 some (Sum.inr (Sum.inr (0, r29.1.1, ())), r29.2)) (
 some (Sum.inl (()), r29.2))) (
 cond (decide ((tryW a s t x v1 b).1 = 52)) (
 (life_Life_Full (some (e.c, 0)) (b : Int) A4).bind fun (r32 : ((Bool × Unit) × Heap)) =>
 some (Sum.inl (()), r32.2)) (
 some (Sum.inr (Sum.inr (0, (tryW a s t x v1 b).1, ())), A4))))) = R → write_Writer_Append.s1 (some (z.w, 0)) x H ((((a.B : Int), (a.P : Int), (a.S : Int), ()), ()), G) () A = R := by
            intro R hR
            rw [← hR]
            unfold write_Writer_Append.s1
            simp only [o1, bind_some, cond_t, Nat.zero_add, o2.rl, t1, h2.rw', WrAt.wat b hb, h2.ri hb, w3, rt, rS, frb, h3.rc, p1, h4.rl]
          by_cases e0 : (tryW a s t x v1 b).1 = 0
          · refine .inl ⟨.inr (((b * a.P + v1.lf.nx : Nat) : Int), 0, ()), A4, pre ?_, _, _, sb, h4, k4, c0 e0⟩
            have hbB : b < a.B := by rw [← h.eB.1]; exact hb
            have hbP : b * a.P ≤ 1000000 := by
              have := Nat.mul_le_mul (show b ≤ 1000 by omega) hS.2.2
              omega
            have ew : IntKind.wrap .i64 (IntKind.wrap .i64 ((b : Int) * (a.P : Int)) + (v1.lf.nx : Int)) = ((b * a.P + v1.lf.nx : Nat) : Int) := by
              have ew1 : IntKind.wrap .i64 ((b : Int) * (a.P : Int)) = ((b * a.P : Nat) : Int) := by rw [← Int.natCast_mul]; generalize b * a.P = bp at hbP; exact wrap_i64 (by omega) (by omega)
              rw [ew1]
              generalize b * a.P = bp at hbP
              rw [wrap_i64 (by omega) (by omega)]; omega
            have rP : rdI .i64 A4 G.length 1 = some (a.P : Int) := rdI_of hgA4 rfl
            simp only [decide_eq_true e0, cond_t, rP, bind_some, ew]
          · by_cases e53 : (tryW a s t x v1 b).1 = 53
            · obtain ⟨A5, sb', q1, q2, q3⟩ := write_spoil h4 wf4 hb (by rw [show ({ v1 with lf := v1.lf.took e b } : Wr).bad = v1.bad from rfl, hbad]; exact hbl)
              by_cases em : ((tryW a s t x v1 b).2.markT a (b : Int)).1 = 0
              · obtain ⟨j1, j2⟩ := (c53 e53).2 em
                refine .inr ⟨A5, _, _, sb', v1.worn b, pre ?_, j1, j2, q2, k4.trans (mN q3), q3.get htA4 (fun hm => hm (.inr (.inl rfl))), q3.get hgA4 (fun hm => hm (.inr (.inr rfl)))⟩
                simp only [decide_eq_false e0, cond_f, decide_eq_true e53, cond_t, q1, bind_some, decide_eq_true em, Bool.not_true]
              · refine .inl ⟨.inr (0, ((tryW a s t x v1 b).2.markT a (b : Int)).1, ()), A5, pre ?_, _, _, sb', q2, k4.trans (mN q3), (c53 e53).1 em⟩
                simp only [decide_eq_false e0, cond_f, decide_eq_true e53, cond_t, q1, bind_some, decide_eq_false em, Bool.not_false]
            · by_cases e52 : (tryW a s t x v1 b).1 = 52
              · obtain ⟨A5, q1, q2, q3⟩ := life_Full h4.lf hb
                have h5 := h4.life q2 q3
                have k5 := h4.nl q3
                obtain ⟨j1, j2⟩ := c52 e52
                refine .inr ⟨A5, _, _, sb, v1.worn b, pre ?_, j1, j2, h5, k4.trans (mN k5), k5.get htA4 (fun hm => hm (.inr (.inl rfl))), k5.get hgA4 (fun hm => hm (.inr (.inr rfl)))⟩
                simp only [decide_eq_false e0, cond_f, decide_eq_false e53, decide_eq_true e52, cond_t, q1, bind_some]
              · refine .inl ⟨.inr (0, (tryW a s t x v1 b).1, ()), A4, pre ?_, _, _, sb, h4, k4, cx e0 e53 e52⟩
                simp only [decide_eq_false e0, cond_f, decide_eq_false e53, decide_eq_false e52]
      intro n
      induction n with
      | zero =>
        intro s v sb A c hm hJ hA h1' h2'
        rcases ground s v sb A c hJ hA h1' h2' with ⟨y, A', g1, g2⟩ | ⟨A', s', v', sb', c', _, _, g3, _⟩
        · exact ⟨1, y, A', by rw [iter, g1]; rfl, g2⟩
        · omega
      | succ n ih =>
        intro s v sb A c hm hJ hA h1' h2'
        rcases ground s v sb A c hJ hA h1' h2' with ⟨y, A', g1, g2⟩ | ⟨A', s', v', sb', c', g1, g2, g3, g4, g5, g6, g7⟩
        · exact ⟨1, y, A', by rw [iter, g1]; rfl, g2⟩
        · obtain ⟨m, y, B', i1, s2, v2, sb2, i2, i3, i4⟩ := ih s' v' sb' A' c' (by omega) g2 g4 g6 g7
          exact ⟨m + 1, y, B', by rw [iter, g1]; exact i1, s2, v2, sb2, i2, g5.trans i3, i4⟩
    obtain ⟨m, y, H', i1, i2⟩ := key _ s v sb G7 0 (Nat.le_refl _) hj h7' htag7 hgeo7
    exact ⟨y, H', loopW_eq i1, i2⟩
  have hres : WrAt N H' z a e s' v' sb' := l2.more (fun k hk hn => l2.nN k hk (.inl hn)) (fun k hn => l2.NL k (.inl hn))
  have q1 : H ++ [Blk.cells [.int .i64 t.1, .int .u64 t.2.1, .int .i64 t.2.2.1, .int .i64 t.2.2.2.1, .int .i64 t.2.2.2.2.1] .exact] = H ++ [tagB t] := rfl
  have fr' : page_Frame ((t.worn 0).1, (t.worn 0).2.1, (t.worn 0).2.2.1, (t.worn 0).2.2.2.1, (t.worn 0).2.2.2.2.1, ()) x (a.S : Int) = some (dataOf x a.S, spareOf (t.worn 0) x a.S, 0, ()) := fr
  cases y with
  | inl u =>
    refine ⟨H', 0, 130, s', v', sb', ?_, hres, k7.trans l3, l4⟩
    unfold write_Writer_Append
    simp only [q1, Option.isNone_some, cond_f, bind_some, Nat.zero_add, h1.rc, g1, w1, w2, r1, r2, fr', decide_true, Bool.not_true, l1, Sum.elim_inl]
  | inr q =>
    refine ⟨H', q.1, q.2.1, s', v', sb', ?_, hres, k7.trans l3, l4⟩
    unfold write_Writer_Append
    simp only [q1, Option.isNone_some, cond_f, bind_some, Nat.zero_add, h1.rc, g1, w1, w2, r1, r2, fr', decide_true, Bool.not_true, l1, Sum.elim_inr]
end
end Ev
