/- SWriteR SWriteN SLaw13 SLaw13i SLaw13j SLaw13k SLaw13m SLaw13F -/
import Derived.Test.YtloijdlakkmjgaaKN6
import Derived.Test.YtloijdlakkmjgaaGLaw13
import Derived.Test.YtloijdlakkmjgaaKN5
import Derived.Test.YtloijdlakkmjgaaKN2
/- The writer: a page is read; a new one. -/
namespace Ev
open Go (IntKind)

def readW (a : NdA) (s : Nd) (k : Nat) : Tg × Bytes × Int × Unit :=
  if (s.readT a ((k / a.P : Nat) : Int) ((k % a.P : Nat) : Int)).2.2.1 = 0 then
    if (lookP (s.readT a ((k / a.P : Nat) : Int) ((k % a.P : Nat) : Int)).1 (s.readT a ((k / a.P : Nat) : Int) ((k % a.P : Nat) : Int)).2.1).1 = 1 then
      ((lookP (s.readT a ((k / a.P : Nat) : Int) ((k % a.P : Nat) : Int)).1 (s.readT a ((k / a.P : Nat) : Int) ((k % a.P : Nat) : Int)).2.1).2.1, (lookP (s.readT a ((k / a.P : Nat) : Int) ((k % a.P : Nat) : Int)).1 (s.readT a ((k / a.P : Nat) : Int) ((k % a.P : Nat) : Int)).2.1).2.2.1, 0, ())
    else (tag0, [], 3, ())
  else (tag0, [], (s.readT a ((k / a.P : Nat) : Int) ((k % a.P : Nat) : Int)).2.2.1, ())

section
variable {N : Nat → Prop} {H : Heap} {z : WrA} {a : NdA} {e : LfA} {s : Nd} {v : Wr} {sb : Sl} {D : Int}

theorem write_Read (h : WrAt N H z a e s v sb) (w : Wf a s D) {k : Nat} (hk : k < 1000000) : ∃ H', write_Writer_Read (some (z.w, 0)) (k : Int) H = some ((readW a s k), H') ∧ WrAt N H' z a e s v sb ∧ Keep (fun _ => False) H H' := by
  have hsz := w.sz
  have h1 := h.push (tagB tag0)
  obtain ⟨G, g1, g2, g3⟩ := nand_geometry h1.nd
  have hg := h1.keep g3 fun _ _ => id
  have ht0 : G[H.length]? = some (tagB tag0) := g3.get app_last id
  have hP : decide ((a.P : Int) = 0) = false := decide_eq_false (by omega)
  have hdv : IntKind.wrap .i64 (Int.tdiv (k : Int) (a.P : Int)) = ((k / a.P : Nat) : Int) := by
    show IntKind.wrap .i64 ((k / a.P : Nat) : Int) = _
    have h2 := Nat.div_le_self k a.P
    generalize k / a.P = q at h2
    exact wrap_i64 (by omega) (by omega)
  have hmd : Int.tmod (k : Int) (a.P : Int) = ((k % a.P : Nat) : Int) := rfl
  obtain ⟨R, p1, p2, p3⟩ := nand_readT hg.nd w ((k / a.P : Nat) : Int) ((k % a.P : Nat) : Int)
  have hrl := readT_length w ((k / a.P : Nat) : Int) ((k % a.P : Nat) : Int)
  have hR := hg.keep p3 fun _ _ => id
  have htR : R[H.length]? = some (tagB tag0) := p3.get ht0 id
  have hlR := get_lt htR
  have kR : Keep (fun _ => False) H R := ((Keep.push _ _ _).trans g3).trans p3
  have q1 : H ++ [Blk.cells [.int .i64 0, .int .u64 0, .int .i64 0, .int .i64 0, .int .i64 0] .exact] = H ++ [tagB tag0] := rfl
  unfold write_Writer_Read readW
  simp only [q1, Option.isNone_some, cond_f, bind_some, Nat.zero_add, h1.rc, g1, hg.rc, hP, hdv, hmd, p1]
  generalize s.readT a ((k / a.P : Nat) : Int) ((k % a.P : Nat) : Int) = r at *
  -- what the tag's block is set to, and read again
  have put : ∀ (X : Heap) (u : Tg), X[H.length]? = some (tagB u) → ∀ t : Tg, wr X H.length 0 [.int .i64 t.1, .int .u64 t.2.1, .int .i64 t.2.2.1, .int .i64 t.2.2.2.1, .int .i64 t.2.2.2.2.1] = some (X.set H.length (tagB t)) := fun X u hX t => wr_tag X H.length u hX t
  have kset : ∀ (X : Heap) (t : Tg), Keep (fun _ => False) H X → H.length < X.length → Keep (fun _ => False) H (X.set H.length (tagB t)) := fun X t kx hx => ⟨by rw [List.length_set]; exact kx.len, fun j hj _ => by rw [set_get' (by omega)]; exact kx.same j hj id⟩
  have hown : ∀ (X : Heap) (t : Tg), WrAt N X z a e s v sb → WrAt N (X.set H.length (tagB t)) z a e s v sb := fun X t hX => hX.keep (Keep.set (F := fun j => j = H.length) _ _ _ rfl) fun j hj hf => by have := h.lt hj; omega
  by_cases e0 : r.2.2.1 = 0
  · have hl := page_Look_eq r.1 r.2.1 (by omega) (by omega)
    rw [if_pos e0]
    generalize lookP r.1 r.2.1 = lk at hl ⊢
    have wl : wr (R ++ [Blk.cells [.int .i64 0, .int .u64 0, .int .i64 0, .int .i64 0, .int .i64 0] .exact]) R.length 0 [.int .i64 lk.2.1.1, .int .u64 lk.2.1.2.1, .int .i64 lk.2.1.2.2.1, .int .i64 lk.2.1.2.2.2.1, .int .i64 lk.2.1.2.2.2.2.1] = some (R ++ [tagB lk.2.1]) := by
      rw [show R ++ [Blk.cells [.int .i64 0, .int .u64 0, .int .i64 0, .int .i64 0, .int .i64 0] .exact] = R ++ [tagB tag0] from rfl, wr_tag _ _ tag0 app_last, set_last]
    have hR2 := hR.push (tagB lk.2.1)
    have k2 : Keep (fun _ => False) H (R ++ [tagB lk.2.1]) := kR.trans (Keep.push _ _ _)
    have ht2 : (R ++ [tagB lk.2.1])[H.length]? = some (tagB tag0) := by rw [app_lt hlR]; exact htR
    by_cases e1 : lk.1 = 1
    · rw [if_pos e1]
      have rl : @Eq (Option Tg) (rd (R ++ [tagB lk.2.1]) (.agg [.int .i64, .int .u64, .int .i64, .int .i64, .int .i64]) R.length 0) (some lk.2.1) := rd_tag app_last
      have rr : @Eq (Option Tg) (rd ((R ++ [tagB lk.2.1]).set H.length (tagB lk.2.1)) (.agg [.int .i64, .int .u64, .int .i64, .int .i64, .int .i64]) H.length 0) (some lk.2.1) := rd_tag (set_get (get_lt ht2))
      refine ⟨(R ++ [tagB lk.2.1]).set H.length (tagB lk.2.1), ?_, hown _ _ hR2, kset _ _ k2 (get_lt ht2)⟩
      simp only [decide_eq_true e0, Bool.not_true, cond_f, hl, bind_some, wl, decide_eq_true e1, rl, put _ _ ht2 lk.2.1, rr]
    · rw [if_neg e1]
      have pz := put _ _ ht2 tag0
      have rr : @Eq (Option Tg) (rd ((R ++ [tagB lk.2.1]).set H.length (tagB tag0)) (.agg [.int .i64, .int .u64, .int .i64, .int .i64, .int .i64]) H.length 0) (some tag0) := rd_tag (set_get (get_lt ht2))
      have pz' : wr (R ++ [tagB lk.2.1]) H.length 0 [.int .i64 0, .int .u64 0, .int .i64 0, .int .i64 0, .int .i64 0] = some ((R ++ [tagB lk.2.1]).set H.length (tagB tag0)) := pz
      refine ⟨(R ++ [tagB lk.2.1]).set H.length (tagB tag0), ?_, hown _ _ hR2, kset _ _ k2 (get_lt ht2)⟩
      simp only [decide_eq_true e0, Bool.not_true, cond_f, hl, bind_some, wl, decide_eq_false e1, Bool.not_false, cond_t, pz', rr]
  · rw [if_neg e0]
    have pz' : wr R H.length 0 [.int .i64 0, .int .u64 0, .int .i64 0, .int .i64 0, .int .i64 0] = some (R.set H.length (tagB tag0)) := put _ _ htR tag0
    have rr : @Eq (Option Tg) (rd (R.set H.length (tagB tag0)) (.agg [.int .i64, .int .u64, .int .i64, .int .i64, .int .i64]) H.length 0) (some tag0) := rd_tag (set_get hlR)
    refine ⟨R.set H.length (tagB tag0), ?_, hown _ _ hR, kset _ _ kR hlR⟩
    simp only [decide_eq_false e0, Bool.not_false, cond_t, pz', bind_some, rr]
end
end Ev

/- The writer: a new one. -/
namespace Ev
open Go (IntKind)

theorem clone_B {H : Heap} {s : Sl} {row : List C} (h : Row H 1 s row) (h0 : 0 < s.len) (hl : s.len ≤ 1099511627776) : ∃ k H' bk, slices_Clone_int_int s H = some ((⟨some (k, 0), s.len, s.len⟩, ()), H') ∧ H.length ≤ k ∧ bk ≠ .ro ∧ H'[k]? = some (.cells row bk) ∧ Keep (fun _ => False) H H' := by
  unfold slices_Clone_int_int
  cases hp : s.p with
  | none => have := h.nil hp; omega
  | some a =>
    have hr := (h.push (Blk.cells [] .exact)).row
    simp only [Option.isNone_some, cond_f, hr, bind_some]
    have hg : Grown (H ++ [.cells [] .exact]) 1 ⟨some (H.length, 0), 0, 0⟩ [] := ⟨rfl, rfl, fun _ => rfl, fun a ha => by cases ha; exact ⟨rfl, .inr app_last⟩⟩
    obtain ⟨a1, a2⟩ := hg.app (bytes := 8) (by decide) (n := s.len) (new := row) (by omega) h.len (by simp; omega) (by simp; omega)
    simp only [Nat.zero_add, List.nil_append] at a1 a2
    have hb := (a2.blk _ rfl).2
    have kk : Keep (fun _ => False) H (grownH (H ++ [.cells [] .exact]) ⟨some (H.length, 0), 0, 0⟩ row) := ⟨by rw [grownH_length]; simp; omega, fun k hk _ => by rw [grownH_get (by simp; omega) (fun a ha => by cases ha; simp; omega), app_lt hk]⟩
    rcases hb with hb | hb
    · exact ⟨(H ++ [Blk.cells [] .exact]).length, _, .loose, by rw [a1]; rfl, by simp, by decide, hb, kk⟩
    · exact ⟨(H ++ [Blk.cells [] .exact]).length, _, .exact, by rw [a1]; rfl, by simp, by decide, hb, kk⟩

/-- A new writer, of a chip and a life. -/
theorem write_new_eq {N : Nat → Prop} {H : Heap} {a : NdA} {e : LfA} {s : Nd} {f : Lf} {t : Sl} (hn : NdAt H a s) (hf : LfAt H e f) (ht : Row H 1 t (arrC e.B fun _ => [.int .i64 0])) (eB : e.B = a.B ∧ e.P = a.P) (hB : 0 < e.B) (hd : ∀ k, a.own k → ¬ e.fp k)
    (nN : ∀ k, a.own k ∨ e.fp k → ¬ N k) (NL : ∀ k, N k → k < H.length) :
    ∃ H' z, write_New (some (a.c, 0)) (some (e.c, 0)) t H = some ((some (z.w, 0), 0, ()), H') ∧ WrAt N H' z a e s ⟨f, fun _ => 0, []⟩ ⟨none, 0, 0⟩ ∧ Keep (fun _ => False) H H' := by
  have hsz := hf.sz
  have htl : t.len = e.B := by have := ht.len; rw [arrC_length (es := 1) (f := fun _ => [C.int .i64 0]) (fun _ => rfl)] at this; omega
  obtain ⟨G, g1, g2, g3⟩ := nand_geometry hn
  obtain ⟨k, R, bk, c1, c2, c3, c4, c5⟩ := clone_B (ht.keep g3 fun _ _ _ => id) (by omega) (by omega)
  have hN := g2.keep c5 fun _ _ => id
  have hF := (hf.keep g3 fun _ _ => id).keep c5 fun _ _ => id
  have hl1 := g3.len
  have hl2 := c5.len
  have hk := get_lt c4
  refine ⟨R ++ [.cells [.ptr (some (a.c, 0)), .ptr (some (e.c, 0)), .sl 1 ⟨some (k, 0), e.B, e.B⟩, .sl 1 ⟨none, 0, 0⟩] .exact], ⟨R.length, k⟩, ?_, ?_, (g3.trans c5).trans (Keep.push _ _ _)⟩
  · unfold write_New
    rw [htl] at c1
    simp only [g1, bind_some, decide_eq_false (show ¬ (a.B : Int) = 0 by omega), cond_f, Option.isNone_some, htl, decide_eq_true (show (e.B : Int) = (a.B : Int) by omega), Bool.not_true, c1]
  · have oa : ∀ j, a.own j → j < H.length := fun j hj => hn.own_lt hj
    have oe : ∀ j, e.fp j → j < H.length := fun j hj => hf.lt hj
    exact { nd := hN.push _, lf := hF.keep (Keep.push (fun _ => False) _ _) fun _ _ => id, cell := app_last, worn := ⟨bk, c3, by rw [app_lt hk]; exact c4⟩, bads := Grown.ni _ 1, eB := eB,
            d1 := fun j hj => ⟨hd j hj, by have := oa j hj; show j ≠ R.length; omega, by have := oa j hj; show j ≠ k; omega, fun o ho => (by cases ho)⟩,
            d2 := fun j hj => ⟨by have := oe j hj; show j ≠ R.length; omega, by have := oe j hj; show j ≠ k; omega, fun o ho => (by cases ho)⟩,
            d3 := ⟨by show R.length ≠ k; omega, fun o ho => (by cases ho), fun o ho => (by cases ho)⟩,
            NL := fun j hm => by have := NL j hm; simp; omega,
            nN := fun j hj hm => by
              have := NL j hm
              rcases hj with hj | hj | hj | hj | ⟨o, ho⟩
              · exact nN j (.inl hj) hm
              · exact nN j (.inr hj) hm
              · have : j = R.length := hj
                omega
              · have : j = k := hj
                omega
              · cases ho }
end Ev

/- Chapter 13: a chip and a writer; tags. -/
namespace Ev
open Go (IntKind)

def tagN (n : Nat) : Tg := (1, (n : Int), 0, 1, 0, ())
theorem tag_eq {n : Nat} (hn : n < 4294967296) : law13_tag (n : Int) = some (tagN n, ()) := by
  have ew : IntKind.wrap .u64 (n : Int) = (n : Int) := by rw [wrap_u64]; omega
  unfold law13_tag law13_tag.on
  have w1 := wr_tag ([] ++ [tagB tag0]) 0 tag0 rfl (tagN n)
  have w1' : wr ([] ++ [Blk.cells [.int .i64 0, .int .u64 0, .int .i64 0, .int .i64 0, .int .i64 0] .exact]) ([] : Heap).length 0 [.int .i64 1, .int .u64 (n : Int), .int .i64 0, .int .i64 1, .int .i64 0] = some [tagB (tagN n)] := w1
  have r1 : @Eq (Option Tg) (rd [tagB (tagN n)] (.agg [.int .i64, .int .u64, .int .i64, .int .i64, .int .i64]) ([] : Heap).length 0) (some (tagN n)) := rd_tag rfl
  simp only [ew, w1', bind_some, r1]
theorem tag_ok {n : Nat} {w : Int} (hw : 0 ≤ w ∧ w < 4294967296) : tagOK ((tagN n).worn w) = true := decide_eq_true (by simp [Tg.worn, tagN]; omega)

def Wr.new : Wr := ⟨Lf.new, fun _ => 0, []⟩
theorem begun13 {H : Heap} {f1 f2 f3 t1 t2 : Sl} {cuts : List Cut} {fails : List Int} (g : Geo)
    (s1 : Sl.sub 3 f1 0 (if 8 < (f1.len : Int) then 8 else (f1.len : Int)) (f1.cap : Int) = some t1)
    (s2 : Sl.sub 1 f2 0 (if 8 < (f2.len : Int) then 8 else (f2.len : Int)) (f2.cap : Int) = some t2)
    (hcu : Row H 3 t1 (cutC cuts)) (hfa : Row H 1 t2 (intC fails)) (hl1 : cuts.length ≤ 1099511627776) (hl2 : fails.length ≤ 1099511627776) :
    ∃ H' a e z, law13_Begun g (f1, f2, f3, ()) H = some ((some (a.c, 0), some (z.w, 0), true, ()), H') ∧ WrAt (fun k => k < H.length) H' z a e (Nd.new cuts fails []) Wr.new ⟨none, 0, 0⟩ ∧ Keep (fun _ => False) H H' ∧ (8 ≤ a.B ∧ a.B ≤ 15 ∧ 4 ≤ a.P ∧ a.P ≤ 11 ∧ 64 ≤ a.S ∧ a.S ≤ 127) := by
  unfold law13_Begun
  obtain ⟨B, P, S, hsh, hB0, hB1, hP0, hP1, hS0, hS1, hok⟩ := shape_nat g
  let gB : Blk := .cells [.int .i64 g.1, .int .i64 g.2.1, .int .i64 g.2.2.1] .exact
  let fB : Blk := .cells [.sl 3 f1, .sl 1 f2, .sl 1 f3] .exact
  let hB : Blk := .cells [.int .i64 (B : Int), .int .i64 (P : Int), .int .i64 (S : Int)] .exact
  let H1 : Heap := H ++ [gB]
  let H2 : Heap := H1 ++ [fB]
  have e1 : H1.length = H.length + 1 := by simp [H1]
  have q1 : H ++ [Blk.cells [.int .i64 g.1, .int .i64 g.2.1, .int .i64 g.2.2.1] .exact] = H1 := rfl
  have q2 : H1 ++ [Blk.cells [.sl 3 f1, .sl 1 f2, .sl 1 f3] .exact] = H2 := rfl
  have g2 : H2[H.length]? = some gB := by rw [app_lt (by omega)]; exact app_last
  have f2' : H2[H1.length]? = some fB := app_last
  have r1 := rd_geo (H := H2) (k := H.length) (g := g) (bk := .exact) g2
  obtain ⟨H3, k1, k2⟩ := geometry_eq g H2
  rw [hsh] at k1
  have f3' := k2.get f2' id
  have w6 : wr (H3 ++ [Blk.cells [.int .i64 0, .int .i64 0, .int .i64 0] .exact]) H3.length 0 [.int .i64 (B : Int), .int .i64 (P : Int), .int .i64 (S : Int)] = some (H3 ++ [hB]) := by
    rw [wr_last (by decide) (by simp)]; rfl
  have r7 := rd_geo (H := H3 ++ [hB]) (k := H3.length) (g := ((B : Int), (P : Int), (S : Int), ())) (bk := .exact) app_last
  have f6 : (H3 ++ [hB])[H1.length]? = some fB := by rw [app_lt (get_lt f3')]; exact f3'
  have b0 : rdSl 3 (H3 ++ [hB]) H1.length 0 = some f1 := rdSl_of f6 rfl
  have b1 : rdSl 1 (H3 ++ [hB]) H1.length 1 = some f2 := rdSl_of f6 rfl
  have k6 : Keep (fun _ => False) H (H3 ++ [hB]) := (((Keep.push _ _ _).trans (Keep.push _ _ _)).trans k2).trans (Keep.push _ _ _)
  have no : ∀ {s : Sl} (b o : Nat), s.p = some (b, o) → ¬ False := fun _ _ _ => id
  obtain ⟨H4, a, n1, n2, n3, nB, nP, nS, n4⟩ := new_yes (B := B) (P := P) (S := S) (f := (t1, t2, ⟨none, 0, 0⟩, ())) (cuts := cuts) (fails := fails) (bad := []) (H3 ++ [hB]) hok (hcu.keep k6 no) (hfa.keep k6 no) (Row.ni _ 1 0) hl1 hl2 (by decide)
  have h4 : H4[H3.length]? = some hB := n3.get app_last id
  have rB4 : rdI .i64 H4 H3.length 0 = some (B : Int) := rdI_of h4 rfl
  have rP4 : rdI .i64 H4 H3.length 1 = some (P : Int) := rdI_of h4 rfl
  obtain ⟨H5, e, l1, l2, l3, lB, lP, l4⟩ := life_new_eq H4 (B := B) (P := P) (by omega) (by omega)
  have rB5 : rdI .i64 H5 H3.length 0 = some (B : Int) := rdI_of (l3.get h4 id) rfl
  have hmk := mkS_of (H := H5) (bytes := 8) (zero := [.int .i64 0]) (n := B) (by omega) (by omega)
  have hn5 := (n2.keep l3 fun _ _ => id).push (.cells (arrC B fun _ => [.int .i64 0]) .exact)
  have hl5 := l2.keep (Keep.push (fun _ => False) H5 (.cells (arrC B fun _ => [.int .i64 0]) .exact)) fun _ _ => id
  have hrow : Row (H5 ++ [.cells (arrC B fun _ => [.int .i64 0]) .exact]) 1 ⟨some (H5.length, 0), B, B⟩ (arrC e.B fun _ => [.int .i64 0]) := by
    rw [lB]; exact ⟨row_last (by rw [arrC_length (es := 1) (f := fun _ => [C.int .i64 0]) (fun _ => rfl)]), fun hh => by cases hh⟩
  have kk := k6.len
  have hown : ∀ k, a.own k → k < H4.length := fun k hk => n2.own_lt hk
  obtain ⟨H6, z, w1, w2, w3⟩ := write_new_eq (N := fun k => k < H.length) hn5 hl5 hrow ⟨by omega, by omega⟩ (by omega) (fun k hk hf => by have := hown k hk; have := l4 k hf; omega) (fun k hk hm => by
    rcases hk with hk | hk
    · have := n4 k hk; omega
    · have := l4 k hk; have := n3.len; omega) (fun k hk => by have := n3.len; have := l3.len; simp; omega)
  refine ⟨H6, a, e, z, ?_, w2, ((((k6.trans n3).trans l3).trans (Keep.push _ _ _)).trans w3), by omega⟩
  have eg : (g.1, g.2.1, g.2.2.1, ()) = g := rfl
  simp only [q1, q2, r1, bind_some, eg, k1, w6, r7, b0, b1, s1, s2, n1, rB4, rP4, l1, rB5, hmk, w1, decide_true, cond_t]
end Ev

/- Chapter 13: what holds of a chip and its writer, when the power stays. -/
namespace Ev
open Go (IntKind)

/-- What holds as long as the power stays. -/
structure WInv (a : NdA) (s : Nd) (v : Wr) : Prop where
  cuts : s.cuts = []
  off : s.off = false
  kind : ∀ i, i < a.B → 0 ≤ v.lf.l i ∧ v.lf.l i ≤ 3
  op : v.lf.op < 0 ∨ ∃ b : Nat, b < a.B ∧ v.lf.op = (b : Int) ∧ v.lf.l b = 1 ∧ v.lf.nx < a.P ∧ ∀ q, v.lf.nx ≤ q → q < a.P → s.pages b q = []
  free : ∀ i, i < a.B → v.lf.l i = 0 → ∀ q, q < a.P → s.pages i q = []
  dead : ∀ i, i < a.B → s.dead i = true → v.lf.l i = 3
  one : ∀ i, i < a.B → v.lf.l i = 1 → v.lf.op = (i : Int)
theorem inE_yes {a : NdA} {s : Nd} {i q : Nat} (ho : s.off = false) (hi : i < a.B) (hq : q < a.P) : s.inE a (i : Int) (q : Int) = 0 := by
  unfold Nd.inE
  rw [if_neg (by simp [ho]), if_neg (by omega)]
theorem try_calm {a : NdA} {s : Nd} {t : Tg} {x : Bytes} {v : Wr} {b : Nat} (hc : s.cuts = []) (ho : s.off = false) (hb : b < a.B) (hn : v.lf.nx < a.P) (hp : ∀ q, v.lf.nx ≤ q → q < a.P → s.pages b q = []) (hd : s.dead b = false) (hx : x.length ≤ a.S) :
    tryW a s t x v b = if s.failNow = true then (53, ({ s.acted with dead := upd s.dead b true } : Nd).lay a b v.lf.nx (List.replicate (a.S + 32) 0)) else (0, s.acted.lay a b v.lf.nx (frameB a (t.worn (v.worn b)) x)) := by
  have h0 : s.inE a (b : Int) (v.lf.nx : Int) = 0 := inE_yes ho hb hn
  have hu : s.used a b v.lf.nx = false := used_false hp
  have hdl := dataOf_length hx
  have hsl := spareOf_length (t.worn (v.worn b)) x a.S
  have hfl : (frameB a (t.worn (v.worn b)) x).length = a.S + 32 := frameB_length hx
  unfold tryW Nd.progT
  rw [if_neg (by rw [h0]; simp), if_neg (by rw [hdl, hsl]; omega), Int.toNat_natCast, Int.toNat_natCast, hu]
  simp only [Bool.false_eq_true, if_false]
  unfold Nd.program
  rw [cutNow_nil hc]
  simp only [hd, Bool.false_eq_true, false_or]
  have e : dataOf x a.S ++ spareOf (t.worn (v.worn b)) x a.S = frameB a (t.worn (v.worn b)) x := rfl
  rw [e, hfl]
/-- The block that is written after opening. -/
theorem WInv.opened {a : NdA} {e : LfA} {s : Nd} {v v1 : Wr} (i : WInv a s v) (eB : e.B = a.B) (hP : 0 < a.P) (o : Opened e v true v1) : ∃ b, b < a.B ∧ v1.lf.op = (b : Int) ∧ v1.lf.l b = 1 ∧ v1.lf.nx < a.P ∧ (∀ q, v1.lf.nx ≤ q → q < a.P → s.pages b q = []) ∧ s.dead b = false ∧ v1.worn = v.worn ∧ v1.bad = v.bad ∧ WInv a s v1 := by
  rcases o with ⟨h1, _, rfl⟩ | ⟨h1, _, b, hb, hf, _, rfl⟩ | ⟨_, h, _⟩
  · rcases i.op with hh | ⟨b, hb, ho, hl, hn, hq⟩
    · omega
    · refine ⟨b, hb, ho, hl, hn, hq, ?_, rfl, rfl, i⟩
      cases hd : s.dead b with
      | false => rfl
      | true => have := i.dead b hb hd; omega
  · rw [eB] at hb
    have hfree := i.free b hb hf
    have hdd : s.dead b = false := by
      cases hd : s.dead b with
      | false => rfl
      | true => have := i.dead b hb hd; omega
    refine ⟨b, hb, rfl, by simp [upd], hP, fun q _ hq => hfree q hq, hdd, rfl, rfl, ⟨i.cuts, i.off, fun j hj => ?_, .inr ⟨b, hb, rfl, by simp [upd], hP, fun q _ hq => hfree q hq⟩, fun j hj hj0 => ?_, fun j hj hjd => ?_, fun j hj hj1 => ?_⟩⟩
    · show 0 ≤ upd v.lf.l b 1 j ∧ upd v.lf.l b 1 j ≤ 3
      unfold upd
      split
      · omega
      · exact i.kind j hj
    · have hj0' : upd v.lf.l b 1 j = 0 := hj0
      unfold upd at hj0'
      split at hj0'
      · omega
      · exact i.free j hj hj0'
    · have := i.dead j hj hjd
      show upd v.lf.l b 1 j = 3
      unfold upd
      split
      · rename_i he; subst he; omega
      · exact this
    · have hj1' : upd v.lf.l b 1 j = 1 := hj1
      unfold upd at hj1'
      split at hj1'
      · rename_i he; subst he; rfl
      · have := i.one j hj hj1'
        omega
  · cases h
/-- A page is written: the next one is the one behind it. -/
theorem WInv.took {a : NdA} {e : LfA} {s : Nd} {v : Wr} {b : Nat} (i : WInv a s v) (eP : e.P = a.P) (hb : b < a.B) (ho : v.lf.op = (b : Int)) (hl : v.lf.l b = 1) (hn : v.lf.nx < a.P) (T : Bytes) : WInv a (s.acted.lay a b v.lf.nx T) { v with lf := v.lf.took e b } := by
  have hq : ∀ q, v.lf.nx ≤ q → q < a.P → s.pages b q = [] := by
    rcases i.op with hh | ⟨c, hc, hoc, _, _, hq⟩
    · omega
    · have : c = b := by omega
      subst this; exact hq
  have hpg : ∀ j q, ¬ (j = b ∧ q = v.lf.nx) → (s.acted.lay a b v.lf.nx T).pages j q = s.pages j q := fun j q h => by
    unfold Nd.lay upd2
    simp only
    rw [if_neg h]; rfl
  have hoff : (s.acted.lay a b v.lf.nx T).off = false := by
    show (s.off || s.cutNow.isSome) = false
    rw [cutNow_nil i.cuts, i.off]; rfl
  unfold Lf.took
  by_cases hp : v.lf.nx + 1 = e.P
  · rw [if_pos hp]
    refine ⟨i.cuts, hoff, fun j hj => ?_, .inl (by show (-1 : Int) < 0; decide), fun j hj hj0 q hqP => ?_, fun j hj hjd => ?_, fun j hj hj1 => ?_⟩
    · show 0 ≤ upd v.lf.l b 2 j ∧ upd v.lf.l b 2 j ≤ 3
      unfold upd
      split
      · omega
      · exact i.kind j hj
    · have hj0' : upd v.lf.l b 2 j = 0 := hj0
      unfold upd at hj0'
      split at hj0'
      · omega
      · rename_i hne
        rw [hpg j q (fun h => hne h.1)]
        exact i.free j hj hj0' q hqP
    · have := i.dead j hj hjd
      show upd v.lf.l b 2 j = 3
      unfold upd
      split
      · rename_i he; subst he; omega
      · exact this
    · have hj1' : upd v.lf.l b 2 j = 1 := hj1
      unfold upd at hj1'
      split at hj1'
      · omega
      · rename_i hne
        have := i.one j hj hj1'
        omega
  · rw [if_neg hp]
    refine ⟨i.cuts, hoff, i.kind, .inr ⟨b, hb, ho, hl, by show v.lf.nx + 1 < a.P; omega, fun q hq1 hqP => ?_⟩, fun j hj hj0 q hqP => ?_, fun j hj hjd => i.dead j hj hjd, i.one⟩
    · have hq1' : v.lf.nx + 1 ≤ q := hq1
      rw [hpg b q (fun h => by omega)]
      exact hq q (by omega) hqP
    · have hj0' : v.lf.l j = 0 := hj0
      rw [hpg j q (fun h => by rw [h.1] at hj0'; omega)]
      exact i.free j hj hj0' q hqP
/-- A block that failed is bad. -/
theorem WInv.spoilt {a : NdA} {s : Nd} {v : Wr} {b : Nat} (hc : s.cuts = []) (ho : s.off = false) (hb : b < a.B) (hl3 : v.lf.l b ≠ 3) (kind : ∀ i, i < a.B → 0 ≤ v.lf.l i ∧ v.lf.l i ≤ 3)
    (op : v.lf.op < 0 ∨ v.lf.op = (b : Int) ∨ ∃ c : Nat, c < a.B ∧ v.lf.op = (c : Int) ∧ v.lf.l c = 1 ∧ v.lf.nx < a.P ∧ ∀ q, v.lf.nx ≤ q → q < a.P → s.pages c q = [])
    (free : ∀ i, i < a.B → v.lf.l i = 0 → i ≠ b → ∀ q, q < a.P → s.pages i q = []) (dead : ∀ i, i < a.B → s.dead i = true → i ≠ b → v.lf.l i = 3) (one : ∀ i, i < a.B → v.lf.l i = 1 → i ≠ b → v.lf.op = (i : Int)) : WInv a s (v.spoilt b) := by
  have hlf : (v.spoilt b).lf = ⟨upd v.lf.l b 3, if v.lf.op = (b : Int) then -1 else v.lf.op, v.lf.nx⟩ := by
    show v.lf.set b 3 = _
    unfold Lf.set
    rw [if_neg hl3]
  refine ⟨hc, ho, fun j hj => ?_, ?_, fun j hj hj0 q hqP => ?_, fun j hj hjd => ?_, fun j hj hj1 => ?_⟩ <;> rw [hlf] at *
  · show 0 ≤ upd v.lf.l b 3 j ∧ upd v.lf.l b 3 j ≤ 3
    unfold upd
    split
    · omega
    · exact kind j hj
  · by_cases he : v.lf.op = (b : Int)
    · left; show (if v.lf.op = (b : Int) then (-1 : Int) else v.lf.op) < 0; rw [if_pos he]; decide
    · rcases op with h | h | ⟨c, hc', hoc, hlc, hn, hq⟩
      · left; show (if v.lf.op = (b : Int) then (-1 : Int) else v.lf.op) < 0; rw [if_neg he]; exact h
      · exact absurd h he
      · right
        have hne : c ≠ b := fun h => he (by rw [hoc, h])
        exact ⟨c, hc', by show (if v.lf.op = (b : Int) then (-1 : Int) else v.lf.op) = _; rw [if_neg he]; exact hoc, by show upd v.lf.l b 3 c = 1; unfold upd; rw [if_neg hne]; exact hlc, hn, hq⟩
  · have hj0' : upd v.lf.l b 3 j = 0 := hj0
    unfold upd at hj0'
    split at hj0'
    · omega
    · rename_i hne
      exact free j hj hj0' hne q hqP
  · show upd v.lf.l b 3 j = 3
    unfold upd
    split
    · rfl
    · rename_i hne
      exact dead j hj hjd hne
  · have hj1' : upd v.lf.l b 3 j = 1 := hj1
    unfold upd at hj1'
    split at hj1'
    · omega
    · rename_i hne
      have := one j hj hj1' hne
      show (if v.lf.op = (b : Int) then (-1 : Int) else v.lf.op) = _
      rw [if_neg (by omega)]; exact this
/-- Marking, when the power stays. -/
theorem mark_calm {a : NdA} {s : Nd} {b : Nat} (hc : s.cuts = []) (ho : s.off = false) (hb : b < a.B) (hP : 0 < a.P) : s.markT a (b : Int) = (0, { s with did := s.did + 1, mark := upd s.mark b true }) := by
  have h0 : s.inE a (b : Int) 0 = 0 := inE_yes (q := 0) ho hb hP
  unfold Nd.markT
  rw [if_neg (by rw [h0]; simp), Int.toNat_natCast]
  unfold Nd.domark
  rw [cutNow_nil hc, acted_plain (cutNow_nil hc)]
/-- Erasing, when the power stays. -/
theorem erase_calm {a : NdA} {s : Nd} {v : Wr} {b : Nat} (hc : s.cuts = []) (ho : s.off = false) (hb : b < a.B) (hP : 0 < a.P) (hd : s.dead b = false) :
    eraseW a s v b = if s.failNow = true then (0, { s with did := s.did + 1 + 1, worn := upd s.worn b (s.worn b + 1), dead := upd s.dead b true, mark := upd s.mark b true }, v.spoilt b)
      else (0, ({ s with did := s.did + 1, worn := upd s.worn b (s.worn b + 1) } : Nd).clear b a.P, { v with worn := upd v.worn b (v.worn b + 1), lf := v.lf.set b 0 }) := by
  have h0 : s.inE a (b : Int) 0 = 0 := inE_yes (q := 0) ho hb hP
  have he : s.eraseT a (b : Int) = s.erase a b := by
    unfold Nd.eraseT
    rw [if_neg (by rw [h0]; simp), Int.toNat_natCast]
  unfold eraseW
  rw [he]
  unfold Nd.erase
  rw [cutNow_nil hc, acted_plain (cutNow_nil hc)]
  simp only [hd, Bool.false_eq_true, false_or]
  by_cases hf : s.failNow = true
  · rw [if_pos hf, if_pos hf]
    have hm := mark_calm (a := a) (s := { s with did := s.did + 1, worn := upd s.worn b (s.worn b + 1), dead := upd s.dead b true }) (b := b) hc ho hb hP
    rw [if_neg (show ¬ ((54 : Int) = 0) by decide), if_pos rfl, hm]
  · rw [if_neg hf, if_neg hf]
    rw [if_pos rfl]
theorem WInv.erased {a : NdA} {s : Nd} {v : Wr} {b : Nat} (i : WInv a s v) (hb : b < a.B) (hl3 : v.lf.l b ≠ 3) (w : Nat → Int) (n : Int) (ws : Nat → Int) : WInv a (({ s with did := n, worn := ws } : Nd).clear b a.P) { v with worn := w, lf := v.lf.set b 0 } := by
  have hlf : v.lf.set b 0 = ⟨upd v.lf.l b 0, if v.lf.op = (b : Int) then -1 else v.lf.op, v.lf.nx⟩ := by
    unfold Lf.set
    rw [if_neg hl3]
  rw [hlf]
  have hpg : ∀ j q, (s.pages j q = [] ∨ (j = b ∧ q < a.P)) → (({ s with did := n, worn := ws } : Nd).clear b a.P).pages j q = [] := fun j q h => by
    unfold Nd.clear
    simp only
    split
    · rfl
    · rename_i hne
      rcases h with h | h
      · exact h
      · exact absurd h hne
  refine ⟨i.cuts, i.off, fun j hj => ?_, ?_, fun j hj hj0 q hqP => ?_, fun j hj hjd => ?_, fun j hj hj1 => ?_⟩
  · show 0 ≤ upd v.lf.l b 0 j ∧ upd v.lf.l b 0 j ≤ 3
    unfold upd
    split
    · omega
    · exact i.kind j hj
  · by_cases he : v.lf.op = (b : Int)
    · left; show (if v.lf.op = (b : Int) then (-1 : Int) else v.lf.op) < 0; rw [if_pos he]; decide
    · rcases i.op with h | ⟨c, hc', hoc, hlc, hn, hq⟩
      · left; show (if v.lf.op = (b : Int) then (-1 : Int) else v.lf.op) < 0; rw [if_neg he]; exact h
      · right
        have hne : c ≠ b := fun h => he (by rw [hoc, h])
        exact ⟨c, hc', by show (if v.lf.op = (b : Int) then (-1 : Int) else v.lf.op) = _; rw [if_neg he]; exact hoc, by show upd v.lf.l b 0 c = 1; unfold upd; rw [if_neg hne]; exact hlc, hn, fun q h1 h2 => hpg c q (.inl (hq q h1 h2))⟩
  · have hj0' : upd v.lf.l b 0 j = 0 := hj0
    unfold upd at hj0'
    split at hj0'
    · rename_i he; subst he; exact hpg _ q (.inr ⟨rfl, hqP⟩)
    · exact hpg j q (.inl (i.free j hj hj0' q hqP))
  · have := i.dead j hj hjd
    show upd v.lf.l b 0 j = 3
    unfold upd
    split
    · rename_i he; subst he; exact absurd this hl3
    · exact this
  · have hj1' : upd v.lf.l b 0 j = 1 := hj1
    unfold upd at hj1'
    split at hj1'
    · omega
    · rename_i hne
      have := i.one j hj hj1'
      show (if v.lf.op = (b : Int) then (-1 : Int) else v.lf.op) = _
      rw [if_neg (by omega)]; exact this
theorem WInv.full {a : NdA} {s : Nd} {v : Wr} {b : Nat} (i : WInv a s v) (hb : b < a.B) (ho : v.lf.op = (b : Int)) (hl : v.lf.l b = 1) : WInv a s { v with lf := v.lf.set b 2 } := by
  have hlf : v.lf.set b 2 = ⟨upd v.lf.l b 2, -1, v.lf.nx⟩ := by
    unfold Lf.set
    rw [if_neg (by omega), if_pos ho]
  rw [hlf]
  refine ⟨i.cuts, i.off, fun j hj => ?_, .inl (by show (-1 : Int) < 0; decide), fun j hj hj0 q hqP => ?_, fun j hj hjd => ?_, fun j hj hj1 => ?_⟩
  · show 0 ≤ upd v.lf.l b 2 j ∧ upd v.lf.l b 2 j ≤ 3
    unfold upd
    split
    · omega
    · exact i.kind j hj
  · have hj0' : upd v.lf.l b 2 j = 0 := hj0
    unfold upd at hj0'
    split at hj0'
    · omega
    · exact i.free j hj hj0' q hqP
  · have := i.dead j hj hjd
    show upd v.lf.l b 2 j = 3
    unfold upd
    split
    · rename_i he; subst he; omega
    · exact this
  · have hj1' : upd v.lf.l b 2 j = 1 := hj1
    unfold upd at hj1'
    split at hj1'
    · omega
    · have := i.one j hj hj1'
      omega
end Ev

/- Chapter 13: a page is written, when the power stays. -/
namespace Ev
open Go (IntKind)

/-- A block failed, and was marked. -/
def Nd.failed (a : NdA) (s : Nd) (b p : Nat) : Nd := { (({ s.acted with dead := upd s.dead b true } : Nd).lay a b p (List.replicate (a.S + 32) 0)) with did := s.did + 1 + 1, mark := upd s.mark b true }
/-- The block that is written. -/
structure Hit (a : NdA) (e : LfA) (s : Nd) (v v1 : Wr) (b : Nat) : Prop where
  op : Opened e v true v1
  hb : b < a.B
  ho : v1.lf.op = (b : Int)
  hl : v1.lf.l b = 1
  hn : v1.lf.nx < a.P
  hq : ∀ q, v1.lf.nx ≤ q → q < a.P → s.pages b q = []
  hd : s.dead b = false
  worn : v1.worn = v.worn
  bad : v1.bad = v.bad
inductive AppR (a : NdA) (e : LfA) (t : Tg) (x : Bytes) : Nd → Wr → Nd → Wr → Int → Int → Prop
  | full {s : Nd} {v : Wr} : v.lf.op < 0 → (∀ i, i < a.B → v.lf.l i ≠ 0) → AppR a e t x s v s v 0 130
  | good {s : Nd} {v v1 : Wr} {b : Nat} : Hit a e s v v1 b → s.failNow = false → AppR a e t x s v (s.acted.lay a b v1.lf.nx (frameB a (t.worn (v1.worn b)) x)) { v1 with lf := v1.lf.took e b } ((b * a.P + v1.lf.nx : Nat) : Int) 0
  | fail {s s' : Nd} {v v1 v' : Wr} {b : Nat} {p er : Int} : Hit a e s v v1 b → s.failNow = true → AppR a e t x (s.failed a b v1.lf.nx) (({ v1 with lf := v1.lf.took e b } : Wr).spoilt b) s' v' p er → AppR a e t x s v s' v' p er

def alive (l : Nat → Int) : Nat → Nat
  | 0 => 0
  | n + 1 => alive l n + if l n = 3 then 0 else 1
theorem alive_le (l : Nat → Int) (n : Nat) : alive l n ≤ n := by
  induction n with
  | zero => exact Nat.le_refl _
  | succ n ih => unfold alive; split <;> omega
theorem alive_mono {l l' : Nat → Int} : ∀ {n : Nat}, (∀ i, i < n → l i = 3 → l' i = 3) → alive l' n ≤ alive l n
  | 0, _ => Nat.le_refl _
  | n + 1, h => by
    have := alive_mono (n := n) fun i hi => h i (by omega)
    unfold alive
    by_cases h3 : l n = 3
    · rw [if_pos h3, if_pos (h n (by omega) h3)]; omega
    · rw [if_neg h3]; split <;> omega
theorem alive_lt {l l' : Nat → Int} : ∀ {n : Nat}, (∀ i, i < n → l i = 3 → l' i = 3) → ∀ {b : Nat}, b < n → l b ≠ 3 → l' b = 3 → alive l' n < alive l n
  | 0, _, _, hb, _, _ => absurd hb (by omega)
  | n + 1, h, b, hb, h1, h2 => by
    have hm := alive_mono (n := n) fun i hi => h i (by omega)
    unfold alive
    by_cases hbn : b = n
    · subst hbn; rw [if_neg h1, if_pos h2]; omega
    · have := alive_lt (n := n) (fun i hi => h i (by omega)) (b := b) (by omega) h1 h2
      by_cases h3 : l n = 3
      · rw [if_pos h3, if_pos (h n (by omega) h3)]; omega
      · rw [if_neg h3]; split <;> omega

theorem took_l {e : LfA} {f : Lf} {b : Nat} (i : Nat) : (f.took e b).l i = if f.nx + 1 = e.P then upd f.l b 2 i else f.l i := by
  unfold Lf.took
  split <;> rfl
theorem took_op {e : LfA} {f : Lf} {b : Nat} : (f.took e b).op = if f.nx + 1 = e.P then -1 else f.op := by
  unfold Lf.took
  split <;> rfl
section
variable {N : Nat → Prop} {H : Heap} {z : WrA} {a : NdA} {e : LfA} {s : Nd} {v : Wr} {sb : Sl} {D : Int}

/-- A block that failed in writing. -/
theorem WInv.failed {v1 : Wr} {b : Nat} (i : WInv a s v1) (hb : b < a.B) (ho : v1.lf.op = (b : Int)) (hl : v1.lf.l b = 1) : WInv a (s.failed a b v1.lf.nx) (({ v1 with lf := v1.lf.took e b } : Wr).spoilt b) := by
  have hoff : (s.failed a b v1.lf.nx).off = false := by
    show (s.off || s.cutNow.isSome) = false
    rw [cutNow_nil i.cuts, i.off]; rfl
  have hne : ∀ {j : Nat}, j ≠ b → (v1.lf.took e b).l j = v1.lf.l j := fun {j} h => by
    rw [took_l]
    split
    · unfold upd; rw [if_neg h]
    · rfl
  have hbl : (v1.lf.took e b).l b = 1 ∨ (v1.lf.took e b).l b = 2 := by
    rw [took_l]
    split
    · right; simp [upd]
    · exact .inl hl
  refine WInv.spoilt (v := { v1 with lf := v1.lf.took e b }) i.cuts hoff hb (by show (v1.lf.took e b).l b ≠ 3; omega) (fun j hj => ?_) ?_ (fun j hj hj0 hjb q hq => ?_) (fun j hj hjd hjb => ?_) (fun j hj hj1 hjb => ?_)
  · show 0 ≤ (v1.lf.took e b).l j ∧ (v1.lf.took e b).l j ≤ 3
    by_cases hjb : j = b
    · subst hjb; omega
    · rw [hne hjb]; exact i.kind j hj
  · show (v1.lf.took e b).op < 0 ∨ (v1.lf.took e b).op = (b : Int) ∨ _
    rw [took_op]
    split
    · left; omega
    · exact .inr (.inl ho)
  · have h0 : v1.lf.l j = 0 := by rw [← hne hjb]; exact hj0
    have : (s.failed a b v1.lf.nx).pages j q = s.pages j q := by
      unfold Nd.failed Nd.lay upd2
      simp only
      rw [if_neg (fun h => hjb h.1)]; rfl
    rw [this]
    exact i.free j hj h0 q hq
  · have : s.dead j = true := by
      have h' : upd s.dead b true j = true := hjd
      unfold upd at h'
      rw [if_neg hjb] at h'
      exact h'
    show (v1.lf.took e b).l j = 3
    rw [hne hjb]
    exact i.dead j hj this
  · have h1 : v1.lf.l j = 1 := by rw [← hne hjb]; exact hj1
    have := i.one j hj h1
    omega

/-- A page is written, when the power stays. -/
theorem app_calm (h : WrAt N H z a e s v sb) (i : WInv a s v) (w : Wf a s D) (hD : D + 100 ≤ 1000000) (hB : a.B ≤ 16) (hbad : v.bad.length ≤ 100000) {t : Tg} {x : Bytes} (hw : ∀ j, j < a.B → 0 ≤ v.worn j ∧ v.worn j ≤ 1000000)
    (ht : ∀ n : Int, 0 ≤ n → n ≤ 1000000 → tagOK (t.worn n) = true) (hseq : 0 ≤ t.2.1 ∧ t.2.1 < 18446744073709551616) (hx : x.length ≤ a.S) :
    ∃ H' p er s' v' sb', write_Writer_Append (some (z.w, 0)) t x H = some ((p, er, ()), H') ∧ WrAt N H' z a e s' v' sb' ∧ Keep (fun k => ¬ N k) H H' ∧ AppR a e t x s v s' v' p er ∧ WInv a s' v' ∧ Wf a s' (D + 40) ∧ v'.worn = v.worn ∧ v'.bad.length ≤ v.bad.length + 16 ∧ s'.fails = s.fails := by
  obtain ⟨eB, eP⟩ := h.eB
  have hsz := w.sz
  have hP : 0 < a.P := by omega
  obtain ⟨H', p, er, s', v', sb', r1, r2, r3, r4⟩ := write_Append_run (J := fun s' v' => WInv a s' v' ∧ (∃ D' : Int, Wf a s' D' ∧ D' + 2 * (alive v'.lf.l a.B : Int) ≤ D + 2 * (alive v.lf.l a.B : Int)) ∧ v'.worn = v.worn ∧ v'.bad.length + alive v'.lf.l a.B ≤ v.bad.length + alive v.lf.l a.B ∧ s'.fails = s.fails ∧ ∀ s2 v2 p er, AppR a e t x s' v' s2 v2 p er → AppR a e t x s v s2 v2 p er)
    (Q := fun s' v' p er => AppR a e t x s v s' v' p er ∧ WInv a s' v' ∧ Wf a s' (D + 40) ∧ v'.worn = v.worn ∧ v'.bad.length ≤ v.bad.length + 16 ∧ s'.fails = s.fails) (fun _ v' => alive v'.lf.l a.B) h (ht 0 (by omega) (by omega)) hseq hx (by omega)
    ⟨i, ⟨D, w, Int.le_refl _⟩, rfl, Nat.le_refl _, rfl, fun _ _ _ _ h => h⟩ (by
      rintro s' v' ⟨i', ⟨D', w', hD'⟩, hw', hb', hf', path⟩
      have hal := alive_le v.lf.l a.B
      have hal' := alive_le v'.lf.l a.B
      refine ⟨⟨D', w', by omega⟩, by omega, fun r v1 o => ⟨fun hr => ?_, fun hr => ?_⟩⟩
      · subst hr
        rcases o with ⟨_, h, _⟩ | ⟨_, h, _⟩ | ⟨h1, _, h2, h3⟩
        · cases h
        · cases h
        · subst h3
          exact ⟨path _ _ _ _ (.full h1 (by rw [← eB]; exact h2)), i', w'.le (by omega) (by omega), hw', by omega, hf'⟩
      · subst hr
        obtain ⟨b, hb, ho, hl, hn, hq, hd, hv1, hv2, i1⟩ := i'.opened eB hP o
        have hwb : v1.worn b = v.worn b := by rw [hv1, hw']
        have hwb' := hw b hb
        have htok : tagOK (t.worn (v1.worn b)) = true := ht _ (by rw [hwb]; omega) (by rw [hwb]; omega)
        have hal1 : alive v1.lf.l a.B ≤ alive v'.lf.l a.B := by
          refine alive_mono fun j hj hj3 => ?_
          rcases o with ⟨_, _, rfl⟩ | ⟨_, _, c, hc, hc0, _, rfl⟩ | ⟨_, hh, _⟩
          · exact hj3
          · show upd v'.lf.l c 1 j = 3
            unfold upd
            split
            · rename_i hjc; subst hjc; omega
            · exact hj3
          · cases hh
        have hit : Hit a e s' v' v1 b := ⟨o, hb, ho, hl, hn, hq, hd, hv1, hv2⟩
        have htry := try_calm (t := t) (x := x) (v := v1) i'.cuts i'.off hb hn hq hd hx
        refine ⟨b, by rw [eB]; exact hb, ho, by omega, htok, ?_, ?_, ?_, ?_⟩
        · intro e0
          have hff : s'.failNow = false := by
            cases hff : s'.failNow with
            | false => rfl
            | true => rw [htry, if_pos hff] at e0; cases e0
          have wp := (w'.progT (by omega) (b : Int) (v1.lf.nx : Int) (dataOf x a.S) (spareOf (t.worn (v1.worn b)) x a.S)).1
          have ht2 : tryW a s' t x v1 b = s'.progT a (b : Int) (v1.lf.nx : Int) (dataOf x a.S) (spareOf (t.worn (v1.worn b)) x a.S) := rfl
          rw [← ht2] at wp
          rw [hff] at htry
          simp only [Bool.false_eq_true, if_false] at htry
          rw [htry] at wp ⊢
          exact ⟨path _ _ _ _ (.good hit hff), i1.took eP hb ho hl hn _, wp.le (by omega) (by omega), by show v1.worn = _; rw [hv1, hw'], by show v1.bad.length ≤ _; rw [hv2]; omega, hf'⟩
        · intro e53
          have hff : s'.failNow = true := by
            cases hff : s'.failNow with
            | true => rfl
            | false => rw [htry, hff] at e53; simp at e53
          have wp := (w'.progT (by omega) (b : Int) (v1.lf.nx : Int) (dataOf x a.S) (spareOf (t.worn (v1.worn b)) x a.S)).1
          have wm := (wp.markT (by omega) (b : Int)).1
          have ht2 : tryW a s' t x v1 b = s'.progT a (b : Int) (v1.lf.nx : Int) (dataOf x a.S) (spareOf (t.worn (v1.worn b)) x a.S) := rfl
          rw [← ht2] at wm
          rw [if_pos hff] at htry
          have hoff : (s'.off || s'.cutNow.isSome) = false := by rw [cutNow_nil i'.cuts, i'.off]; rfl
          have hm := mark_calm (a := a) (s := ({ s'.acted with dead := upd s'.dead b true } : Nd).lay a b v1.lf.nx (List.replicate (a.S + 32) 0)) (b := b) i'.cuts hoff hb hP
          have hmm : (tryW a s' t x v1 b).2.markT a (b : Int) = (0, s'.failed a b v1.lf.nx) := by rw [htry]; exact hm
          rw [hmm] at wm ⊢
          refine ⟨fun hh => absurd rfl hh, fun _ => ?_⟩
          have hlt : alive (({ v1 with lf := v1.lf.took e b } : Wr).spoilt b).lf.l a.B < alive v'.lf.l a.B := by
            refine Nat.lt_of_lt_of_le ?_ hal1
            have hl3 : (({ v1 with lf := v1.lf.took e b } : Wr).spoilt b).lf.l = upd (v1.lf.took e b).l b 3 := by
              show ((v1.lf.took e b).set b 3).l = _
              unfold Lf.set
              rw [if_neg (by rw [took_l]; unfold upd; split <;> simp [hl])]
            refine alive_lt (fun j hj hj3 => ?_) hb (by omega) (by rw [hl3]; simp [upd])
            rw [hl3]
            unfold upd
            split
            · rfl
            · rename_i hjb
              rw [took_l]
              unfold upd
              rw [if_neg hjb]
              split <;> exact hj3
          have hbl : (({ v1 with lf := v1.lf.took e b } : Wr).spoilt b).bad.length = v'.bad.length + 1 := by
            show (v1.bad ++ [(b : Int)]).length = _
            rw [hv2]; simp
          exact ⟨⟨i1.failed hb ho hl, ⟨D' + 1 + 1, wm, by omega⟩, by show v1.worn = _; rw [hv1, hw'], by rw [hbl]; omega, hf', fun _ _ _ _ hh => path _ _ _ _ (.fail hit hff hh)⟩, hlt⟩
        · intro e52
          rw [htry] at e52
          split at e52 <;> cases e52
        · intro e0 e53 _
          rw [htry] at e0 e53
          split at e53
          · exact absurd rfl e53
          · rename_i hff
            rw [if_neg hff] at e0
            exact absurd rfl e0)
  exact ⟨H', p, er, s', v', sb', r1, r2, r3, r4⟩
/-- When nothing fails. -/
theorem AppR.calm {t : Tg} {x : Bytes} {s' : Nd} {v' : Wr} {p er : Int} (r : AppR a e t x s v s' v' p er) (hf : s.failNow = false) :
    (v.lf.op < 0 ∧ (∀ i, i < a.B → v.lf.l i ≠ 0) ∧ s' = s ∧ v' = v ∧ p = 0 ∧ er = 130) ∨ ∃ v1 b, Hit a e s v v1 b ∧ s' = s.acted.lay a b v1.lf.nx (frameB a (t.worn (v1.worn b)) x) ∧ v' = { v1 with lf := v1.lf.took e b } ∧ p = ((b * a.P + v1.lf.nx : Nat) : Int) ∧ er = 0 := by
  cases r with
  | full h1 h2 => exact .inl ⟨h1, h2, rfl, rfl, rfl, rfl⟩
  | good h1 h2 => exact .inr ⟨_, _, h1, rfl, rfl, rfl, rfl⟩
  | fail h1 h2 _ => rw [hf] at h2; cases h2
end
end Ev

/- Chapter 13: reading what was told; a calm chip. -/
namespace Ev
open Go (IntKind)

theorem divP (b q P : Nat) (hq : q < P) : (b * P + q) / P = b ∧ (b * P + q) % P = q := by
  have h : b * P + q = q + P * b := by rw [Nat.mul_comm]; omega
  constructor
  · rw [h, Nat.add_mul_div_left _ _ (by omega), Nat.div_eq_of_lt hq]; omega
  · rw [h, Nat.add_mul_mod_self_left, Nat.mod_eq_of_lt hq]
/-- What stands is read. -/
theorem read_told {a : NdA} {s : Nd} {b q : Nat} {t : Tg} {x : Bytes} (ho : s.off = false) (hb : b < a.B) (hq : q < a.P) (hp : s.pages b q = frameB a t x) (ht : tagOK t = true) (hseq : 0 ≤ t.2.1 ∧ t.2.1 < 18446744073709551616) (hS : a.S < 65536) (hx : x.length ≤ a.S) : readW a s (b * a.P + q) = (t, x, 0, ()) := by
  obtain ⟨e1, e2⟩ := divP b q a.P hq
  have h0 : s.inE a (b : Int) (q : Int) = 0 := inE_yes ho hb hq
  have hl : (frameB a t x).length = a.S + 32 := frameB_length hx
  have hr : s.readT a (b : Int) (q : Int) = ((frameB a t x).take a.S, (frameB a t x).drop a.S, 0, ()) := by
    unfold Nd.readT
    rw [if_neg (by rw [h0]; simp), Int.toNat_natCast, Int.toNat_natCast]
    unfold Nd.read
    rw [if_neg (by rw [hp]; intro hh; rw [hh] at hl; simp at hl), hp]
  have hv : lookP ((frameB a t x).take a.S) ((frameB a t x).drop a.S) = (1, t, x, ()) := view_frame ht hseq hS hx
  unfold readW
  rw [e1, e2, hr]
  simp only [hv, if_true]
theorem lay_here {a : NdA} {s : Nd} {b p : Nat} {t : Tg} {x : Bytes} (hx : x.length ≤ a.S) : (s.lay a b p (frameB a t x)).pages b p = frameB a t x := by
  unfold Nd.lay upd2
  simp only
  rw [if_pos ⟨trivial, trivial⟩, if_neg (frame_ne_full hx)]
theorem lay_there {a : NdA} {s : Nd} {b p : Nat} {T : Bytes} {k q : Nat} (h : ¬ (k = b ∧ q = p)) : (s.lay a b p T).pages k q = s.pages k q := by
  unfold Nd.lay upd2
  simp only
  rw [if_neg h]

theorem WInv.new (a : NdA) (fails : List Int) (hP : 0 < a.P) : WInv a (Nd.new [] fails []) Wr.new := by
  refine ⟨rfl, rfl, fun i hi => ⟨by show (0 : Int) ≤ 0; decide, by show (0 : Int) ≤ 3; decide⟩, .inl (by show (-1 : Int) < 0; decide), fun i hi _ q hq => rfl, fun i hi h => ?_, fun i hi h => ?_⟩
  · have h' : decide ((i : Int) ∈ ([] : List Int)) = true := h
    simp at h'
  · have h' : (0 : Int) = 1 := h
    omega
theorem Wf.new' {a : NdA} {cuts : List Cut} {fails : List Int} (hc : ∀ x ∈ cuts, 0 ≤ x.2.2.1 ∧ x.2.2.1 < 256) (sz : 1 ≤ a.B ∧ a.B ≤ 1000 ∧ 1 ≤ a.P ∧ a.P ≤ 1000 ∧ a.S ≤ 1000) : Wf a (Nd.new cuts fails []) 0 :=
  ⟨⟨by show (0 : Int) ≤ 0; decide, by show (0 : Int) ≤ 0; decide⟩, fun b => ⟨by show (0 : Int) ≤ 0; decide, by show (0 : Int) ≤ 0; decide⟩, hc, fun b p => .inl rfl, by decide, sz⟩
theorem tagN_seq {n : Nat} (hn : n < 4294967296) {w : Int} : 0 ≤ ((tagN n).worn w).2.1 ∧ ((tagN n).worn w).2.1 < 18446744073709551616 := by
  show 0 ≤ (n : Int) ∧ (n : Int) < 18446744073709551616
  omega

theorem awake13 : law13_awake = some (true, ()) := by
  unfold law13_awake law13_awake.on
  obtain ⟨H1, a, e, z, b1, b2, b3, hB0, hB1, hP0, hP1, hS0, hS1⟩ := begun13 (H := []) (f1 := ⟨none, 0, 0⟩) (f2 := ⟨none, 0, 0⟩) (f3 := ⟨none, 0, 0⟩) (t1 := ⟨none, 0, 0⟩) (t2 := ⟨none, 0, 0⟩) (cuts := []) (fails := []) (0, 0, 0, ()) rfl rfl (Row.ni [] 3 0) (Row.ni [] 1 0) (by decide) (by decide)
  have sz : 1 ≤ a.B ∧ a.B ≤ 1000 ∧ 1 ≤ a.P ∧ a.P ≤ 1000 ∧ a.S ≤ 1000 := by omega
  obtain ⟨eB, eP⟩ := b2.eB
  have i0 := WInv.new a [] (show 0 < a.P by omega)
  have w0 := Wf.new' (fails := []) (fun x (hx : x ∈ ([] : List Cut)) => by cases hx) sz
  have tk : ∀ n : Nat, ∀ w : Int, 0 ≤ w → w ≤ 1000000 → tagOK ((tagN n).worn w) = true := fun n w h1 h2 => tag_ok (by omega)
  obtain ⟨H2, p2, er2, s2, v2, sb2, c1, c2, c3, c4, c5, c6, c7, c8, c9⟩ := app_calm (t := tagN 1) (x := [111, 110, 101]) b2 i0 w0 (by decide) (by omega) (by decide) (fun j hj => ⟨Int.le_refl 0, by show (0 : Int) ≤ 1000000; decide⟩) (tk 1) (tagN_seq (by decide) (w := 0)) (by show 3 ≤ a.S; omega)
  rcases c4.calm (failNow_nil rfl) with ⟨_, hh, _⟩ | ⟨v1, b, hit, rfl, rfl, rfl, rfl⟩
  · exact absurd rfl (hh 0 (by omega))
  have hb0 : b = 0 ∧ v1.lf.nx = 0 := by
    rcases hit.op with ⟨hh, _⟩ | ⟨_, _, c, hc, _, hc2, rfl⟩ | ⟨_, hh, _⟩
    · exact absurd hh (by show ¬ (0 : Int) ≤ -1; decide)
    · have ho := hit.ho
      have hcb : (c : Int) = (b : Int) := ho
      refine ⟨?_, rfl⟩
      by_cases h0 : c = 0
      · omega
      · have := (hc2 0 (by omega) rfl).2 (by omega)
        exact absurd this (by show ¬ (0 : Int) < 0; decide)
    · cases hh
  obtain ⟨hb, hnx⟩ := hb0
  subst hb
  have ho2 : (v1.lf.took e 0).op = 0 := by rw [took_op, if_neg (by omega)]; exact hit.ho
  have hn2 : (v1.lf.took e 0).nx = 1 := by unfold Lf.took; split <;> (simp; omega)
  have hl2 : (v1.lf.took e 0).l 0 = 1 := by rw [took_l, if_neg (by omega)]; exact hit.hl
  obtain ⟨H3, p3, er3, s3, v3, sb3, d1, d2, d3, d4, d5, d6, d7, d8, d9⟩ := app_calm (t := tagN 2) (x := [116, 119, 111]) c2 c5 c6 (by decide) (by omega) (by show v1.bad.length ≤ _; rw [hit.bad]; decide) (fun j hj => by
    show 0 ≤ v1.worn j ∧ v1.worn j ≤ 1000000
    rw [hit.worn]; exact ⟨Int.le_refl 0, by show (0 : Int) ≤ 1000000; decide⟩) (tk 2) (tagN_seq (by decide) (w := 0)) (by show 3 ≤ a.S; omega)
  rcases d4.calm (failNow_nil rfl) with ⟨hh, _⟩ | ⟨v5, b5, hit5, rfl, rfl, rfl, rfl⟩
  · have : (v1.lf.took e 0).op < 0 := hh
    omega
  have hv5 : v5 = { v1 with lf := v1.lf.took e 0 } := by
    rcases hit5.op with ⟨_, _, hh⟩ | ⟨hh, _⟩ | ⟨_, hh, _⟩
    · exact hh
    · have : (v1.lf.took e 0).op < 0 := hh
      omega
    · cases hh
  have hb5 : b5 = 0 := by
    have := hit5.ho
    rw [hv5] at this
    have h' : (v1.lf.took e 0).op = (b5 : Int) := this
    omega
  subst hb5
  have hn5 : v5.lf.nx = 1 := by rw [hv5]; exact hn2
  obtain ⟨H4, r1, r2, r3⟩ := write_Read d2 d6 (k := 1) (by decide)
  have hoff := d5.off
  have hrd := read_told (q := 1) (t := (tagN 2).worn (v5.worn 0)) (x := [116, 119, 111]) hoff (show 0 < a.B by omega) (by omega) (by rw [hn5]; exact lay_here (by show 3 ≤ a.S; omega)) (by rw [hv5]; show tagOK ((tagN 2).worn (v1.worn 0)) = true; rw [hit.worn]; rfl) (tagN_seq (by decide)) (by omega) (by show 3 ≤ a.S; omega)
  rw [show 0 * a.P + 1 = 1 by omega] at hrd
  rw [hrd] at r1
  have hp2 : ((0 * a.P + v1.lf.nx : Nat) : Int) = 0 := by rw [hnx]; omega
  have hp3 : ((0 * a.P + v5.lf.nx : Nat) : Int) = 1 := by rw [hn5]; omega
  rw [hp2] at c1
  rw [hp3] at d1
  have rr := r2.push (tagB ((tagN 2).worn (v5.worn 0)))
  have hl3 : (v5.lf.took e 0).l 0 = 1 := by rw [took_l, if_neg (by omega), hv5]; exact hl2
  have hLife := write_Life rr
  have hIs := life_Is rr.lf (i := 0) (by omega)
  rw [show ({ v5 with lf := v5.lf.took e 0 } : Wr).lf.l 0 = 1 from hl3] at hIs
  have t1 := tag_eq (n := 1) (by decide)
  have t2 := tag_eq (n := 2) (by decide)
  have q1 : ((1 : Nat) : Int) = 1 := rfl
  have q2 : ((2 : Nat) : Int) = 2 := rfl
  rw [q1] at t1 r1
  rw [q2] at t2
  have eg : ∀ n, ((tagN n).1, (tagN n).2.1, (tagN n).2.2.1, (tagN n).2.2.2.1, (tagN n).2.2.2.2.1, ()) = tagN n := fun _ => rfl
  have w1 := wr_last (H := H4) (cs := [.int .i64 0, .int .u64 0, .int .i64 0, .int .i64 0, .int .i64 0]) (bk := .exact) (new := [.int .i64 ((tagN 2).worn (v5.worn 0)).1, .int .u64 ((tagN 2).worn (v5.worn 0)).2.1, .int .i64 ((tagN 2).worn (v5.worn 0)).2.2.1, .int .i64 ((tagN 2).worn (v5.worn 0)).2.2.2.1, .int .i64 ((tagN 2).worn (v5.worn 0)).2.2.2.2.1]) (o := 0) (by decide) (by simp)
  have w1' : wr (H4 ++ [Blk.cells [.int .i64 0, .int .u64 0, .int .i64 0, .int .i64 0, .int .i64 0] .exact]) H4.length 0 [.int .i64 ((tagN 2).worn (v5.worn 0)).1, .int .u64 ((tagN 2).worn (v5.worn 0)).2.1, .int .i64 ((tagN 2).worn (v5.worn 0)).2.2.1, .int .i64 ((tagN 2).worn (v5.worn 0)).2.2.2.1, .int .i64 ((tagN 2).worn (v5.worn 0)).2.2.2.2.1] = some (H4 ++ [tagB ((tagN 2).worn (v5.worn 0))]) := w1
  have ru : rdI .u64 (H4 ++ [tagB ((tagN 2).worn (v5.worn 0))]) H4.length 1 = some 2 := rdI_of app_last rfl
  have q0 : ((0 : Nat) : Int) = 0 := rfl
  rw [q0] at hIs
  simp only [b1, bind_some, Bool.not_true, cond_f, t1, t2, eg, c1, d1, r1, w1', decide_true, cond_t, ru, hLife, hIs]
end Ev

/- Chapter 13: a page is written, when nothing fails and the block is known. -/
namespace Ev
open Go (IntKind)

def Nxt (e : LfA) (v : Wr) (b : Nat) : Prop := v.lf.op = (b : Int) ∨ (v.lf.op < 0 ∧ b < e.B ∧ v.lf.l b = 0 ∧ ∀ c, c < e.B → v.lf.l c = 0 → v.worn b ≤ v.worn c ∧ (c < b → v.worn b < v.worn c))
def Wr.opn (v : Wr) (b : Nat) : Wr := if v.lf.op < 0 then { v with lf := ⟨upd v.lf.l b 1, (b : Int), 0⟩ } else v
def Wr.wrote (v : Wr) (e : LfA) (b : Nat) : Wr := { v.opn b with lf := (v.opn b).lf.took e b }
theorem hit_nxt {a : NdA} {e : LfA} {s : Nd} {v v1 : Wr} {b b' : Nat} (h : Hit a e s v v1 b') (n : Nxt e v b) : b' = b ∧ v1 = v.opn b := by
  have ho := h.ho
  rcases h.op with ⟨h1, _, rfl⟩ | ⟨h1, _, c, hc, hf, hm, rfl⟩ | ⟨_, hh, _⟩
  · rcases n with n | ⟨n, _⟩
    · exact ⟨by omega, by unfold Wr.opn; rw [if_neg (by omega)]⟩
    · omega
  · rcases n with n | ⟨_, hb, hbf, hbm⟩
    · omega
    · have ho' : (c : Int) = (b' : Int) := ho
      have hcb : c = b := by
        have h2 := hm b hb hbf
        have h3 := hbm c hc hf
        by_cases hlt : c < b
        · have := h3.2 hlt; omega
        · by_cases hgt : b < c
          · have := h2.2 hgt; omega
          · omega
      exact ⟨by omega, by unfold Wr.opn; rw [if_pos h1, hcb]⟩
  · cases hh
theorem wrote_worn {v : Wr} {e : LfA} {b : Nat} : (v.wrote e b).worn = v.worn ∧ (v.wrote e b).bad = v.bad := by
  unfold Wr.wrote Wr.opn
  split <;> exact ⟨rfl, rfl⟩
section
variable {N : Nat → Prop} {H : Heap} {z : WrA} {a : NdA} {e : LfA} {s : Nd} {v : Wr} {sb : Sl} {D : Int}
theorem app_next (h : WrAt N H z a e s v sb) (i : WInv a s v) (w : Wf a s D) (hD : D + 100 ≤ 1000000) (hB : a.B ≤ 16) (hS : a.S ≤ 1000) (hbad : v.bad.length ≤ 100000) {n : Nat} (hn : n < 4294967296) {x : Bytes} (hw : ∀ j, j < a.B → 0 ≤ v.worn j ∧ v.worn j ≤ 1000000)
    (hx : x.length ≤ a.S) (hf : s.failNow = false) {b : Nat} (nx : Nxt e v b) :
    b < a.B ∧ (v.opn b).lf.op = (b : Int) ∧ (v.opn b).lf.nx < a.P ∧ ∃ H' sb', write_Writer_Append (some (z.w, 0)) (tagN n) x H = some ((((b * a.P + (v.opn b).lf.nx : Nat) : Int), 0, ()), H') ∧ WrAt N H' z a e (s.acted.lay a b (v.opn b).lf.nx (frameB a ((tagN n).worn (v.worn b)) x)) (v.wrote e b) sb' ∧ Keep (fun k => ¬ N k) H H' ∧
      WInv a (s.acted.lay a b (v.opn b).lf.nx (frameB a ((tagN n).worn (v.worn b)) x)) (v.wrote e b) ∧ Wf a (s.acted.lay a b (v.opn b).lf.nx (frameB a ((tagN n).worn (v.worn b)) x)) (D + 40) := by
  obtain ⟨eB, eP⟩ := h.eB
  obtain ⟨H', p, er, s', v', sb', c1, c2, c3, c4, c5, c6, c7, c8, c9⟩ := app_calm (t := tagN n) (x := x) h i w hD hB hbad hw (fun w h1 h2 => tag_ok (by omega)) (tagN_seq hn (w := 0)) hx
  rcases c4.calm hf with ⟨h1, h2, _⟩ | ⟨v1, b', hit, rfl, rfl, rfl, rfl⟩
  · rcases nx with nx | ⟨_, hb, hbf, _⟩
    · omega
    · exact absurd hbf (h2 b (by omega))
  · obtain ⟨rfl, rfl⟩ := hit_nxt hit nx
    have hfr : frameB a ((tagN n).worn ((v.opn b').worn b')) x = frameB a ((tagN n).worn (v.worn b')) x := by rw [hit.worn]
    rw [hfr] at c2 c5 c6
    exact ⟨hit.hb, hit.ho, hit.hn, H', sb', c1, c2, c3, c5, c6⟩
/-- A block is erased, when nothing fails. -/
theorem erase_next (h : WrAt N H z a e s v sb) (i : WInv a s v) (w : Wf a s D) (hD : D + 100 ≤ 1000000) (hbad : v.bad.length ≤ 100000) (hw : ∀ j, j < a.B → 0 ≤ v.worn j ∧ v.worn j < 1000000) (hf : s.failNow = false) {b : Nat} (hb : b < a.B) (hd : s.dead b = false) (hl3 : v.lf.l b ≠ 3) :
    ∃ H' sb', write_Writer_Erase (some (z.w, 0)) (b : Int) H = some ((0, ()), H') ∧ WrAt N H' z a e (({ s with did := s.did + 1, worn := upd s.worn b (s.worn b + 1) } : Nd).clear b a.P) { v with worn := upd v.worn b (v.worn b + 1), lf := v.lf.set b 0 } sb' ∧ Keep (fun k => ¬ N k) H H' ∧
      WInv a (({ s with did := s.did + 1, worn := upd s.worn b (s.worn b + 1) } : Nd).clear b a.P) { v with worn := upd v.worn b (v.worn b + 1), lf := v.lf.set b 0 } ∧ Wf a (({ s with did := s.did + 1, worn := upd s.worn b (s.worn b + 1) } : Nd).clear b a.P) (D + 2) := by
  obtain ⟨eB, eP⟩ := h.eB
  have hsz := w.sz
  have hwb := hw b hb
  obtain ⟨H', sb', c1, c2, c3⟩ := write_Erase h w (by omega) (i := b) (by omega) (i.kind b hb).1 (by omega) (by omega)
  have he := erase_calm (v := v) i.cuts i.off hb (by omega) hd
  rw [hf] at he
  simp only [Bool.false_eq_true, if_false] at he
  rw [he] at c1 c2
  have wd := w.did
  have hww := w.worn
  refine ⟨H', sb', c1, c2, c3, i.erased hb hl3 _ _ _, ?_⟩
  have w1 : Wf a ({ s with did := s.did + 1, worn := upd s.worn b (s.worn b + 1) } : Nd) (D + 2) := ⟨by show 0 ≤ s.did + 1 ∧ s.did + 1 ≤ D + 2; omega, fun c => by
      have h1 := hww b
      have h2 := hww c
      show 0 ≤ upd s.worn b (s.worn b + 1) c ∧ upd s.worn b (s.worn b + 1) c ≤ D + 2
      unfold upd
      split <;> omega, w.cuts, w.fine, by omega, w.sz⟩
  exact w1.clear _ _
end
end Ev

/- Chapter 13: as many pages as there is room for. -/
namespace Ev
open Go (IntKind)

theorem begun13n (H : Heap) (g : Geo) : ∃ H' a e z, law13_Begun g (⟨none, 0, 0⟩, ⟨none, 0, 0⟩, ⟨none, 0, 0⟩, ()) H = some ((some (a.c, 0), some (z.w, 0), true, ()), H') ∧ WrAt (fun k => k < H.length) H' z a e (Nd.new [] [] []) Wr.new ⟨none, 0, 0⟩ ∧ Keep (fun _ => False) H H' ∧ (8 ≤ a.B ∧ a.B ≤ 15 ∧ 4 ≤ a.P ∧ a.P ≤ 11 ∧ 64 ≤ a.S ∧ a.S ≤ 127) ∧
    WInv a (Nd.new [] [] []) Wr.new ∧ Wf a (Nd.new [] [] []) 0 := by
  obtain ⟨H1, a, e, z, b1, b2, b3, hb⟩ := begun13 (H := H) (f1 := ⟨none, 0, 0⟩) (f2 := ⟨none, 0, 0⟩) (f3 := ⟨none, 0, 0⟩) (t1 := ⟨none, 0, 0⟩) (t2 := ⟨none, 0, 0⟩) (cuts := []) (fails := []) g rfl rfl (Row.ni H 3 0) (Row.ni H 1 0) (by decide) (by decide)
  exact ⟨H1, a, e, z, b1, b2, b3, hb, WInv.new a [] (by omega), Wf.new' (fun x hx => by cases hx) (by omega)⟩

/-- Blocks that are written one behind the other; q pages of block b stand. -/
structure FllV (a : NdA) (v : Wr) (b q : Nat) : Prop where
  l : ∀ i, i < a.B → v.lf.l i = if i < b then 2 else if i = b ∧ 0 < q then 1 else 0
  op : v.lf.op = if 0 < q then (b : Int) else -1
  nx : 0 < q → v.lf.nx = q
  q : q < a.P
  worn : ∀ i, v.worn i = 0
  bad : v.bad = []
theorem FllV.new (a : NdA) (hP : 0 < a.P) : FllV a Wr.new 0 0 :=
  ⟨fun i _ => by rw [if_neg (by omega), if_neg (by omega)]; rfl, rfl, fun h => absurd h (by omega), hP, fun _ => rfl, rfl⟩
theorem FllV.nxt {a : NdA} {e : LfA} {v : Wr} {b q : Nat} (f : FllV a v b q) (eB : e.B = a.B) (hb : b < a.B) : Nxt e v b ∧ (v.opn b).lf.nx = q ∧ (v.opn b).lf.op = (b : Int) ∧ (∀ i, i < a.B → (v.opn b).lf.l i = if i < b then 2 else if i = b then 1 else 0) ∧ (v.opn b).worn = v.worn ∧ (v.opn b).bad = v.bad := by
  have hop := f.op
  by_cases hq : 0 < q
  · rw [if_pos hq] at hop
    have ho : v.opn b = v := by unfold Wr.opn; rw [if_neg (by omega)]
    rw [ho]
    refine ⟨.inl hop, f.nx hq, hop, fun i hi => ?_, rfl, rfl⟩
    rw [f.l i hi]
    simp [hq]
  · rw [if_neg hq] at hop
    have ho : v.opn b = { v with lf := ⟨upd v.lf.l b 1, (b : Int), 0⟩ } := by unfold Wr.opn; rw [if_pos (by omega)]
    rw [ho]
    refine ⟨.inr ⟨by omega, by omega, ?_, fun c hc hc0 => ⟨by rw [f.worn, f.worn]; exact Int.le_refl _, fun hlt => ?_⟩⟩, by show 0 = q; omega, rfl, fun i hi => ?_, rfl, rfl⟩
    · rw [f.l b hb, if_neg (by omega), if_neg (by omega)]
    · rw [f.l c (by omega), if_pos hlt] at hc0; omega
    · show upd v.lf.l b 1 i = _
      unfold upd
      by_cases hi2 : i = b
      · rw [if_pos hi2, if_neg (by omega), if_pos hi2]
      · rw [if_neg hi2, f.l i hi, if_neg (show ¬ (i = b ∧ 0 < q) by omega), if_neg hi2]
theorem FllV.step {a : NdA} {e : LfA} {v : Wr} {b q : Nat} (f : FllV a v b q) (eB : e.B = a.B) (eP : e.P = a.P) (hb : b < a.B) : FllV a (v.wrote e b) (if q + 1 = a.P then b + 1 else b) (if q + 1 = a.P then 0 else q + 1) := by
  obtain ⟨_, n1, n2, n3, n4, n5⟩ := f.nxt eB hb
  have hq := f.q
  have hP : 0 < a.P := by omega
  by_cases hl : q + 1 = a.P
  · have hcond : (v.opn b).lf.nx + 1 = e.P := by omega
    rw [if_pos hl, if_pos hl]
    refine ⟨fun i hi => ?_, ?_, fun h => absurd h (by omega), hP, fun i => ?_, ?_⟩
    · show ((v.opn b).lf.took e b).l i = _
      rw [took_l, if_pos hcond]
      unfold upd
      by_cases hi2 : i = b
      · rw [if_pos hi2, if_pos (by omega)]
      · rw [if_neg hi2, n3 i hi, if_neg hi2]
        by_cases hlt : i < b
        · rw [if_pos hlt, if_pos (by omega)]
        · rw [if_neg hlt, if_neg (by omega), if_neg (by omega)]
    · show ((v.opn b).lf.took e b).op = _
      rw [took_op, if_pos hcond, if_neg (by omega)]
    · show (v.opn b).worn i = 0
      rw [n4]; exact f.worn i
    · show (v.opn b).bad = []
      rw [n5]; exact f.bad
  · have hcond : ¬ (v.opn b).lf.nx + 1 = e.P := by omega
    rw [if_neg hl, if_neg hl]
    refine ⟨fun i hi => ?_, ?_, fun _ => ?_, by omega, fun i => ?_, ?_⟩
    · show ((v.opn b).lf.took e b).l i = _
      rw [took_l, if_neg hcond, n3 i hi]
      simp
    · show ((v.opn b).lf.took e b).op = _
      rw [took_op, if_neg hcond, n2, if_pos (by omega)]
    · show ((v.opn b).lf.took e b).nx = _
      unfold Lf.took
      rw [if_neg hcond, n1]
    · show (v.opn b).worn i = 0
      rw [n4]; exact f.worn i
    · show (v.opn b).bad = []
      rw [n5]; exact f.bad
/-- Which page comes behind. -/
theorem next_at {P b q k : Nat} (hk : k = b * P + q) (hq : q < P) : k + 1 = (if q + 1 = P then b + 1 else b) * P + (if q + 1 = P then 0 else q + 1) := by
  split
  · rw [Nat.add_mul, Nat.one_mul]; omega
  · omega
end Ev
