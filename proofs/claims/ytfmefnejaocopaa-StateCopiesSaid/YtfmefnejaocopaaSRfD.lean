/- Lists into which something is put in order; slices that grow so. The plain state in the heap: four slices; a leaf is put. The plain state: leaves away. The plain state: what only reads it. The plain state: one page's place. -/
import Derived.Test.YtfmefnejaocopaaSSta
import Derived.Test.YtfmefnejaocopaaEm
import Derived.Test.YtfmefnejaocopaaGRef08
import Derived.Test.YtfmefnejaocopaaSStG
set_option linter.unusedSimpArgs false
set_option linter.unusedVariables false
namespace Ev
open Go (IntKind)

section
variable {α : Type}
/-- Is it put, once l was looked at? -/
def putI (k : Int) (l : List (Int × α)) : Bool := l.any fun x => decide (k ≤ x.1)
def outI (k : Int) (v : α) (l : List (Int × α)) : List (Int × α) := if putI k l = true then ains l k v else l
theorem ains_snoc {l : List (Int × α)} {k : Int} (v : α) (h : ∀ x ∈ l, x.1 < k) : ains l k v = l ++ [(k, v)] := by
  induction l with
  | nil => rfl
  | cons x l ih =>
    have := h x (by simp)
    rw [ains, if_neg (by omega), if_neg (by omega), ih fun y hy => h y (by simp [hy])]; rfl
theorem ains_app {l : List (Int × α)} {k : Int} (v : α) {x : Int × α} (h : Asc (l ++ [x])) (hp : putI k l = true) : ains (l ++ [x]) k v = ains l k v ++ (if x.1 = k then [] else [x]) := by
  induction l with
  | nil => cases hp
  | cons y l ih =>
    have hyx : y.1 < x.1 := h.head (by simp)
    rw [List.cons_append, ains, ains]
    by_cases e : k < y.1
    · rw [if_pos e, if_pos e, if_neg (by omega)]; rfl
    · rw [if_neg e, if_neg e]
      by_cases e2 : y.1 = k
      · rw [if_pos e2, if_pos e2, if_neg (by omega)]; rfl
      · rw [if_neg e2, if_neg e2]
        have hp' : putI k l = true := by
          unfold putI at hp ⊢
          rw [List.any_cons, Bool.or_eq_true] at hp
          exact hp.resolve_left (by simp; omega)
        rw [ih h.tail hp']; rfl
theorem putI_false {k : Int} {l : List (Int × α)} (h : putI k l = false) : ∀ x ∈ l, x.1 < k := fun x hx => by
  unfold putI at h
  rw [List.any_eq_false] at h
  have := h x hx
  simp at this; exact this
/-- One more is looked at. -/
theorem outI_snoc {l : List (Int × α)} {k : Int} (v : α) {x : Int × α} (h : Asc (l ++ [x])) :
    putI k (l ++ [x]) = (putI k l || decide (k ≤ x.1)) ∧ outI k v (l ++ [x]) = outI k v l ++ (if putI k l = false ∧ k ≤ x.1 then [(k, v)] else []) ++ (if x.1 = k then [] else [x]) := by
  have h1 : putI k (l ++ [x]) = (putI k l || decide (k ≤ x.1)) := by unfold putI; rw [List.any_append]; simp
  refine ⟨h1, ?_⟩
  unfold outI
  rw [h1]
  cases hp : putI k l with
  | true =>
    rw [Bool.true_or, if_pos rfl, if_pos rfl, if_neg (fun hh => by cases hh.1), List.append_nil, ains_app v h hp]
  | false =>
    have hl := putI_false hp
    rw [Bool.false_or]
    by_cases e : k ≤ x.1
    · rw [if_pos (decide_eq_true e), if_neg (by decide), if_pos ⟨rfl, e⟩]
      clear h1 hp h
      induction l with
      | nil =>
        show ains [x] k v = [(k, v)] ++ _
        rw [ains]
        by_cases e2 : k < x.1
        · rw [if_pos e2, if_neg (by omega)]; rfl
        · rw [if_neg e2, if_pos (by omega), if_pos (by omega)]; rfl
      | cons y l ih =>
        have := hl y (by simp)
        rw [List.cons_append, ains, if_neg (by omega), if_neg (by omega), ih fun z hz => hl z (by simp [hz])]; rfl
    · rw [decide_eq_false e, if_neg (by decide), if_neg (by decide), if_neg (fun hh => e hh.2), List.append_nil, if_neg (by omega)]
theorem outI_all (k : Int) (v : α) (l : List (Int × α)) : (outI k v l ++ if putI k l = false then [(k, v)] else []) = ains l k v := by
  unfold outI
  cases hp : putI k l with
  | true => rw [if_pos rfl, if_neg (by decide), List.append_nil]
  | false => rw [if_neg (by decide), if_pos rfl, ains_snoc v (putI_false hp)]
end
section
variable {H : Heap} {s0 : Sl} {es : Nat} {G : Heap} {s : Sl} {cs : List C}
theorem Em.add (h : Em H s0 es G s cs) (t : Heap) (hes : 0 < es) {new : List C} (hnew : new.length = es) {bytes : Nat} (hb : (s.len + 1) * bytes ≤ 35184372088832) (hb2 : s.len + 1 ≤ 35184372088832) :
    ∃ s' G', appS (G ++ t) es bytes s 1 new = some (s', G') ∧ Em H s0 es G' s' (cs ++ new) ∧ s'.len = s.len + 1 ∧ ∀ b, b < (G ++ t).length → (∀ o, s.p ≠ some (b, o)) → G'[b]? = (G ++ t)[b]? := by
  obtain ⟨s', G', h1, h2, h3, h4, _⟩ := (h.push t).app hes hnew hb hb2
  exact ⟨s', G', h1, h2, h3, fun b hb ho => h4.same b hb fun ⟨o, hp⟩ => ho o hp⟩
/-- A loop that puts out rows, and knows of one thing whether it is put. -/
theorem emitI {cts : List CT} {step : Sl × Bool × Int × Unit → Heap → Option (((Sl × Bool × Int × Unit) ⊕ (Sl × Bool × Unit)) × Heap)} (n : Nat) (out : Nat → List (Tup cts)) (put : Nat → Bool) (h0 : Em H s0 es H s0 []) (hz : s0.len = 0) (ho : out 0 = []) (hp : put 0 = false)
    (hs : ∀ i, i < n → ∀ s G, Em H s0 es G s (rowsOf cts (out i)) → s.len = (out i).length → ∃ s' G', step (s, put i, (i : Int), ()) G = some (.inl (s', put (i + 1), ((i + 1 : Nat) : Int), ()), G') ∧ Em H s0 es G' s' (rowsOf cts (out (i + 1))) ∧ s'.len = (out (i + 1)).length)
    (he : ∀ s G, Em H s0 es G s (rowsOf cts (out n)) → step (s, put n, (n : Int), ()) G = some (.inr (s, put n, ()), G)) :
    ∃ s G, loopW step (s0, false, 0, ()) H = some ((s, put n, ()), G) ∧ Em H s0 es G s (rowsOf cts (out n)) ∧ s.len = (out n).length := by
  obtain ⟨x, G, g1, s, rfl, g2⟩ := loop_rise (step := step) n (fun i y G => ∃ s, y = (s, put i, (i : Int), ()) ∧ Em H s0 es G s (rowsOf cts (out i)) ∧ s.len = (out i).length) (fun x G => ∃ s, x = (s, put n, ()) ∧ Em H s0 es G s (rowsOf cts (out n)) ∧ s.len = (out n).length)
    (fun i y G hi ⟨s, hy, hE, hn⟩ => by
      subst hy
      obtain ⟨s', G', g1, g2, g3⟩ := hs i hi s G hE hn
      exact .inl ⟨_, G', g1, s', rfl, g2, g3⟩)
    (fun y G ⟨s, hy, hE, hn⟩ => by
      subst hy
      exact ⟨_, G, he s G hE, s, rfl, hE, hn⟩) (y := (s0, false, 0, ())) (H := H) ⟨s0, by rw [hp]; rfl, by rw [ho]; exact h0, by rw [ho, hz]; rfl⟩
  exact ⟨s, G, g1, g2⟩
end
end Ev
set_option linter.unusedSimpArgs false
set_option linter.unusedVariables false
namespace Ev
open Go (IntKind)

theorem rowsOf_append' {cts : List CT} (l l' : List (Tup cts)) : rowsOf cts (l ++ l') = rowsOf cts l ++ rowsOf cts l' := by simp [rowsOf]
abbrev ctP : List CT := [.int .i64, .int .i64, .bool]
abbrev ctL : List CT := [.int .i64, .int .i64, .int .i64]
abbrev ctW : List CT := [.int .i64, .int .i64]
abbrev RfV := Sl × Sl × Sl × Sl × Unit
def rsp (x : Int × Int × Bool) : Tup ctP := (x.1, x.2.1, x.2.2, ())
def rlv (x : Int × Int) : Tup ctL := (x.1 / 1024, x.1 % 1024, x.2, ())
def rwn (x : Int × Int) : Tup ctW := (x.1, x.2, ())
structure RfAt (G : Heap) (v : RfV) (st : Sta) : Prop where
  w : SaW st
  sp : Row G 3 v.1 (rowsOf ctP (st.sp.map rsp))
  lv : Row G 3 v.2.1 (rowsOf ctL (st.lv.map rlv))
  bd : Row G 1 v.2.2.1 (intC (st.bd.map Prod.fst))
  wn : Row G 2 v.2.2.2.1 (rowsOf ctW (st.wn.map rwn))
  spl : v.1.len = st.sp.length
  lvl : v.2.1.len = st.lv.length
  bdl : v.2.2.1.len = st.bd.length
  wnl : v.2.2.2.1.len = st.wn.length
/-- Its blocks. -/
def blkV (v : RfV) (b : Nat) : Prop := (∃ o, v.1.p = some (b, o)) ∨ (∃ o, v.2.1.p = some (b, o)) ∨ (∃ o, v.2.2.1.p = some (b, o)) ∨ ∃ o, v.2.2.2.1.p = some (b, o)
section
variable {H G : Heap} {v v' : RfV} {st st' : Sta}
theorem RfAt.keep (h : RfAt H v st) {F : Nat → Prop} (k : Keep F H G) (hF : ∀ b, blkV v b → ¬ F b) : RfAt G v st :=
  ⟨h.w, h.sp.keep k fun b o hp => hF b (.inl ⟨o, hp⟩), h.lv.keep k fun b o hp => hF b (.inr (.inl ⟨o, hp⟩)), h.bd.keep k fun b o hp => hF b (.inr (.inr (.inl ⟨o, hp⟩))), h.wn.keep k fun b o hp => hF b (.inr (.inr (.inr ⟨o, hp⟩))), h.spl, h.lvl, h.bdl, h.wnl⟩
theorem RfAt.lt (h : RfAt H v st) {b : Nat} (hb : blkV v b) : b < H.length := by
  rcases hb with ⟨o, hp⟩ | ⟨o, hp⟩ | ⟨o, hp⟩ | ⟨o, hp⟩
  · exact h.sp.lt hp
  · exact h.lv.lt hp
  · exact h.bd.lt hp
  · exact h.wn.lt hp
/-- What has come of it. -/
structure RRes (H : Heap) (v : RfV) (G : Heap) (v' : RfV) (st' : Sta) : Prop where
  s : RfAt G v' st'
  k : Keep (fun _ => False) H G
  n : ∀ b, blkV v' b → blkV v b ∨ H.length ≤ b
def vC (v : RfV) : List C := [.sl 3 v.1, .sl 3 v.2.1, .sl 1 v.2.2.1, .sl 2 v.2.2.2.1]
/-- The box of a state, and the box of what is told. -/
theorem fin4 {b1 b2 : Nat} {cs : List C} (h1 : b1 < G.length) (h2 : G[b2]? = some (.cells cs .exact)) (hl : cs.length = 4) (hne : b1 ≠ b2) (v : RfV) :
    rd (G.set b1 (.cells (vC v) .exact)) (.agg [.sl 3, .sl 3, .sl 1, .sl 2]) b1 0 = (some v : Option RfV) ∧
    wr (G.set b1 (.cells (vC v) .exact)) b2 0 [.sl 3 v.1, .sl 3 v.2.1, .sl 1 v.2.2.1, .sl 2 v.2.2.2.1] = some ((G.set b1 (.cells (vC v) .exact)).set b2 (.cells (vC v) .exact)) ∧
    rd ((G.set b1 (.cells (vC v) .exact)).set b2 (.cells (vC v) .exact)) (.agg [.sl 3, .sl 3, .sl 1, .sl 2]) b2 0 = (some v : Option RfV) := by
  have g2 := get_lt h2
  refine ⟨rd_agg_of (set_get h1) (by simp [vC]) rfl, ?_, rd_agg_of (set_get (by simpa using g2)) (by simp [vC]) rfl⟩
  have := wr_of (H := G.set b1 (.cells (vC v) .exact)) (b := b2) (o := 0) (cs := cs) (bk := .exact) (new := [.sl 3 v.1, .sl 3 v.2.1, .sl 1 v.2.2.1, .sl 2 v.2.2.2.1]) (by rw [set_get' hne]; exact h2) (by decide) (by rw [hl]; exact Nat.le_refl 4)
  rw [this]
  obtain ⟨c0, c1, c2, c3, rfl⟩ : ∃ c0 c1 c2 c3, cs = [c0, c1, c2, c3] := by
    match cs, hl with
    | [c0, c1, c2, c3], _ => exact ⟨c0, c1, c2, c3, rfl⟩
  rfl
theorem RfAt.box (h : RfAt H v st) (t : Heap) (ht : t[0]? = some (.cells (vC v) .exact)) {s0 : Sl} {es : Nat} {s : Sl} {cs : List C} (hs0 : ∀ a, s0.p = some a → H.length < a.1) (hE : Em (H ++ t) s0 es G s cs) :
    RfAt G v st ∧ G[H.length]? = some (.cells (vC v) .exact) := by
  have ho : ∀ b, b ≤ H.length → ∀ o, s0.p ≠ some (b, o) := fun b hb o hp => by have := hs0 _ hp; simp only at this; omega
  exact ⟨(h.keep (Keep.app (fun _ => False) H t) fun _ _ hf => hf).keep hE.k fun b hb ⟨o, hp⟩ => ho b (by have := h.lt hb; omega) o hp, hE.get (by rw [tl_get0]; exact ht) (ho _ (Nat.le_refl _))⟩
theorem outI_len {α : Type} {l : List (Int × α)} (h : Asc l) (k : Int) (v : α) : (outI k v l).length ≤ l.length + 1 := by
  unfold outI
  split
  · rw [ains_length h]; split <;> omega
  · omega
theorem tup3 {a b c d e : Int} (h1 : a = c) (h2 : b = d) : ((a, b, e, ()) : Tup ctL) = (c, d, e, ()) := by subst h1; subst h2; rfl
/-- The second half of a round: the leaf that stands there, unless it is the same page's. -/
def withB (x1l g : Nat) (i : Int) (p24 : (Sl × Bool × Unit) × Heap) : Option (((Sl × Bool × Int × Unit) ⊕ (Sl × Bool × Unit)) × Heap) :=
 ((rdI .i64 p24.2 g 0).bind fun (v25 : Int) => (rdI .i64 p24.2 x1l 0).bind fun (v26 : Int) =>
  cond (!decide (v25 = v26)) (some ((true, ()), p24.2)) ((rdI .i64 p24.2 g 1).bind fun (v27 : Int) => (rdI .i64 p24.2 x1l 1).bind fun (v28 : Int) => some (((!decide (v27 = v28)), ()), p24.2)) : Option ((Bool × Unit) × Heap)).bind fun (p29 : (Bool × Unit) × Heap) =>
 cond p29.1.1 (Option.bind (α := (Int × Int × Int × Unit)) (rd p29.2 (.agg [.int .i64, .int .i64, .int .i64]) g 0) fun (v30 : (Int × Int × Int × Unit)) =>
  (appS (p29.2 ++ [.cells [.int .i64 v30.1, .int .i64 v30.2.1, .int .i64 v30.2.2.1] .exact]) 3 24 p24.1.1 1 [.int .i64 v30.1, .int .i64 v30.2.1, .int .i64 v30.2.2.1]).bind fun (p33 : (Sl × Heap)) =>
  some (Sum.inl (p33.1, p24.1.2.1, i, ()), p33.2)) (some (Sum.inl (p24.1.1, p24.1.2.1, i, ()), p29.2))
theorem withB_eq {K G2 : Heap} {s0 s2 : Sl} {cs : List C} {x1l g : Nat} {i : Int} {put : Bool} {a b c id p pl : Int} (hE : Em K s0 3 G2 s2 cs) (hg : G2[g]? = some (.cells [.int .i64 a, .int .i64 b, .int .i64 c] .exact)) (hl : G2[x1l]? = some (.cells [.int .i64 id, .int .i64 p, .int .i64 pl] .exact)) (hn : s2.len ≤ 100000) :
    ∃ s' G', withB x1l g i ((s2, put, ()), G2) = some (.inl (s', put, i, ()), G') ∧ Em K s0 3 G' s' (cs ++ if a = id ∧ b = p then [] else [.int .i64 a, .int .i64 b, .int .i64 c]) ∧ s'.len = s2.len + if a = id ∧ b = p then 0 else 1 := by
  obtain ⟨s', G', e1, e2, e3, _⟩ := hE.add [.cells [.int .i64 a, .int .i64 b, .int .i64 c] .exact] (by decide) (new := [.int .i64 a, .int .i64 b, .int .i64 c]) (bytes := 24) rfl (by omega) (by omega)
  have hr : rd G2 (.agg [.int .i64, .int .i64, .int .i64]) g 0 = (some (a, b, c, ()) : Option (Int × Int × Int × Unit)) := rd_agg_of hg (by simp) rfl
  unfold withB
  simp only [rdI_of hg (o := 0) rfl, rdI_of hg (o := 1) rfl, rdI_of hl (o := 0) rfl, rdI_of hl (o := 1) rfl, Option.bind_some]
  by_cases h1 : a = id
  · simp only [decide_eq_true h1, Bool.not_true, cond_false, Option.bind_some]
    by_cases h2 : b = p
    · simp only [decide_eq_true h2, Bool.not_true, cond_false]
      rw [if_pos ⟨h1, h2⟩, if_pos ⟨h1, h2⟩, List.append_nil]
      exact ⟨s2, G2, rfl, hE, rfl⟩
    · simp only [decide_eq_false h2, Bool.not_false, cond_true, hr, Option.bind_some, e1]
      rw [if_neg (fun hh => h2 hh.2), if_neg (fun hh => h2 hh.2)]
      exact ⟨s', G', rfl, e2, e3⟩
  · simp only [decide_eq_false h1, Bool.not_false, cond_true, hr, Option.bind_some, e1]
    rw [if_neg (fun hh => h1 hh.1), if_neg (fun hh => h1 hh.1)]
    exact ⟨s', G', rfl, e2, e3⟩
/-- One round of putting a leaf in. -/
theorem with_step (h : RfAt H v st) {id p pl : Int} (hp : 0 ≤ p ∧ p < 1024) {H1 : Heap} (hH1 : H1.length = H.length + 1) {t : Heap} (ht : t[0]? = some (.cells (vC v) .exact)) (ht1 : t[1]? = some (.cells [.int .i64 id, .int .i64 p, .int .i64 pl] .exact)) {s0 : Sl} (hs0 : ∀ a, s0.p = some a → H.length + 1 < a.1)
    {i : Nat} (hi : i < st.lv.length) {s : Sl} (hE : Em (H ++ t) s0 3 G s (rowsOf ctL ((outI (id * 1024 + p) pl (st.lv.take i)).map rlv))) (hn : s.len = (outI (id * 1024 + p) pl (st.lv.take i)).length) :
    ∃ s' G', ref08_State_with.s1 H H1 (s, putI (id * 1024 + p) (st.lv.take i), (i : Int), ()) G = some (.inl (s', putI (id * 1024 + p) (st.lv.take (i + 1)), ((i + 1 : Nat) : Int), ()), G') ∧
      Em (H ++ t) s0 3 G' s' (rowsOf ctL ((outI (id * 1024 + p) pl (st.lv.take (i + 1))).map rlv)) ∧ s'.len = (outI (id * 1024 + p) pl (st.lv.take (i + 1))).length := by
  obtain ⟨hG, hbox⟩ := h.box t ht (fun a ha => by have := hs0 a ha; omega) hE
  have hleaf : G[H.length + 1]? = some (.cells [.int .i64 id, .int .i64 p, .int .i64 pl] .exact) := hE.get (by rw [tl_get1]; exact ht1) fun o ho => by have := hs0 _ ho; simp only at this; omega
  have hlm : (st.lv.map rlv).length = st.lv.length := List.length_map _
  obtain ⟨b0, o0, r1, r2, _⟩ := Row.rd (cts := ctL) (rows := st.lv.map rlv) hG.lv (i := i) (by omega) (by decide)
  have r1 : Sl.at 3 v.2.1 (i : Int) = some (b0, o0) := r1
  have hx : (st.lv.map rlv)[i]'(by omega) = rlv st.lv[i] := List.getElem_map _
  rw [hx] at r2
  obtain ⟨x, hxx⟩ : ∃ x, x = st.lv[i] := ⟨_, rfl⟩
  have htk := take_snoc hi
  rw [← hxx] at htk r2
  have hmany := h.w.many
  obtain ⟨u1, u2⟩ := outI_snoc (k := id * 1024 + p) pl (l := st.lv.take i) (x := x) (by rw [← htk]; exact h.w.lv.sub (List.take_sublist _ _))
  have hol := outI_len (h.w.lv.sub (List.take_sublist i st.lv)) (id * 1024 + p) pl
  rw [List.length_take] at hol
  rw [htk, u1, u2]
  generalize outI (id * 1024 + p) pl (st.lv.take i) = out at hE hn hol ⊢
  generalize putI (id * 1024 + p) (st.lv.take i) = put at ⊢
  obtain ⟨new, hnew⟩ : ∃ new, new = out ++ (if put = false ∧ id * 1024 + p ≤ x.1 then [(id * 1024 + p, pl)] else []) ++ (if x.1 = id * 1024 + p then [] else [x]) := ⟨_, rfl⟩
  rw [← hnew]
  have r2' : rd G (.agg [.int .i64, .int .i64, .int .i64]) b0 o0 = (some (x.1 / 1024, x.1 % 1024, x.2, ()) : Option (Int × Int × Int × Unit)) := r2
  have hd : decide ((i : Int) < (v.2.1.len : Int)) = true := decide_eq_true (by rw [h.lvl]; omega)
  have hv : rdSl 3 G H.length 1 = some v.2.1 := rdSl_of hbox rfl
  have hGl : H.length + 1 < G.length := get_lt hleaf
  have l0 : ∀ (u : Heap), rdI .i64 (G ++ u) (H.length + 1) 0 = some id := fun u => rdI_of (by rw [List.getElem?_append_left hGl]; exact hleaf) rfl
  have l1 : ∀ (u : Heap), rdI .i64 (G ++ u) (H.length + 1) 1 = some p := fun u => rdI_of (by rw [List.getElem?_append_left hGl]; exact hleaf) rfl
  have l2 : ∀ (u : Heap), rd (G ++ u) (.agg [.int .i64, .int .i64, .int .i64]) (H.length + 1) 0 = (some (id, p, pl, ()) : Option (Int × Int × Int × Unit)) := fun u => rd_agg_of (by rw [List.getElem?_append_left hGl]; exact hleaf) (by simp) rfl
  unfold ref08_State_with.s1
  simp only [hv, hd, cond_true, Option.bind_some, r1]
  simp only [r2', hH1, Option.bind_some, Option.map_some, cond_true, cond_false, List.append_assoc, List.cons_append, List.nil_append, List.length_append, List.length_cons, List.length_nil, Nat.zero_add, rd_t0, rd_t1, rdI_t0, rdI_t1, rdB_t0, rdB_t1, rdM_t0, rdM_t1, rd_c1, rdI_c1, rdB_c1, rdM_c1, rdI_c0, rdB_c0, rdM_c0, wr_t0, wr_t1, wr_c0, wr_c1, setL, List.set, List.getElem?_cons_zero, List.getElem?_cons_succ, un_i, un_b, un_m, un_s, un_sl1, un_sl2, un_sl3, Nat.le_refl, rd_iiib, rd_iiiiii, rd_ibm, rd_iii, rd_iib, rd_ii, rd_3312, rd_iiii, rd_si, rd_33121, rd_33121i, slRow_t0, slRow_t1, sl_c0, sl_c1]
  simp only [l0, l1, l2, Option.bind_some]
  have hk : (if x.1 = id * 1024 + p then ([] : List (Int × Int)) else [x]) = if x.1 / 1024 = id ∧ x.1 % 1024 = p then [] else [x] := by
    by_cases e : x.1 = id * 1024 + p
    · rw [if_pos e, if_pos (by omega)]
    · rw [if_neg e, if_neg (by omega)]
  have hrows : ∀ (c : Bool), rowsOf ctL ((out ++ (if c = true then [(id * 1024 + p, pl)] else []) ++ if x.1 / 1024 = id ∧ x.1 % 1024 = p then [] else [x]).map rlv) = (rowsOf ctL (out.map rlv) ++ if c = true then [.int .i64 id, .int .i64 p, .int .i64 pl] else []) ++ if x.1 / 1024 = id ∧ x.1 % 1024 = p then [] else [.int .i64 (x.1 / 1024), .int .i64 (x.1 % 1024), .int .i64 x.2] := fun c => by
    rw [List.map_append, List.map_append, rowsOf_append', rowsOf_append']
    congr 1
    · congr 1
      cases c
      · rfl
      · show rowsOf ctL [rlv (id * 1024 + p, pl)] = _
        rw [show rlv (id * 1024 + p, pl) = (id, p, pl, ()) from tup3 (key_div id p hp.1 hp.2).1 (key_div id p hp.1 hp.2).2]; rfl
    · by_cases e : x.1 / 1024 = id ∧ x.1 % 1024 = p
      · rw [if_pos e, if_pos e]; rfl
      · rw [if_neg e, if_neg e]; rfl
  have hsl : ∀ b, G.length ≤ b → ∀ o, s.p ≠ some (b, o) := fun b hb o hp => by have := hE.g.lt hp; simp only at this; omega
  have hleafs : ∀ o, s.p ≠ some (H.length + 1, o) := fun o hp => by
    rcases hE.o _ hp with hh | ⟨o', hh⟩
    · have : t.length ≥ 2 := by have := (List.getElem?_eq_some_iff.1 ht1).1; omega
      simp only [List.length_append] at hh; omega
    · have := hs0 _ hh; simp only at this; omega
  obtain ⟨sT, GT, t1, t2, t3, t4⟩ := hE.add [.cells [.int .i64 (x.1 / 1024), .int .i64 (x.1 % 1024), .int .i64 x.2] .exact, .cells [.int .i64 id, .int .i64 p, .int .i64 pl] .exact] (by decide) (new := [.int .i64 id, .int .i64 p, .int .i64 pl]) (bytes := 24) rfl (by omega) (by omega)
  have t5 : GT[G.length]? = some (.cells [.int .i64 (x.1 / 1024), .int .i64 (x.1 % 1024), .int .i64 x.2] .exact) := by rw [t4 _ (by simp) (hsl _ (Nat.le_refl _)), tl_get0]; rfl
  have t6 : GT[H.length + 1]? = some (.cells [.int .i64 id, .int .i64 p, .int .i64 pl] .exact) := by rw [t4 _ (by simp; omega) hleafs, List.getElem?_append_left hGl]; exact hleaf
  obtain ⟨sT', GT', w1, w2, w3⟩ := withB_eq (put := true) (i := ((i + 1 : Nat) : Int)) t2 t5 t6 (by omega)
  have hEF := hE.push [.cells [.int .i64 (x.1 / 1024), .int .i64 (x.1 % 1024), .int .i64 x.2] .exact]
  obtain ⟨sF', GF', z1, z2, z3⟩ := withB_eq (put := put) (i := ((i + 1 : Nat) : Int)) (x1l := H.length + 1) (g := G.length) (a := x.1 / 1024) (b := x.1 % 1024) (c := x.2) (id := id) (p := p) (pl := pl) hEF (by rw [tl_get0]; rfl) (by rw [List.getElem?_append_left hGl]; exact hleaf) (by omega)
  have hlen : ∀ c : Bool, (out ++ (if c = true then [(id * 1024 + p, pl)] else []) ++ if x.1 / 1024 = id ∧ x.1 % 1024 = p then [] else [x]).length = out.length + (if c = true then 1 else 0) + if x.1 / 1024 = id ∧ x.1 % 1024 = p then 0 else 1 := fun c => by
    rw [List.length_append, List.length_append]
    congr 1
    · cases c <;> rfl
    · split <;> rfl
  have hT : put = false → id * 1024 + p ≤ x.1 → ∃ s' G', withB (H.length + 1) G.length ((i + 1 : Nat) : Int) ((sT, true, ()), GT) = some (.inl (s', (put || decide (id * 1024 + p ≤ x.1)), ((i + 1 : Nat) : Int), ()), G') ∧
      Em (H ++ t) s0 3 G' s' (rowsOf ctL (new.map rlv)) ∧ s'.len = new.length := fun e1 e2 => by
    have h1 := hrows true
    have h2 := hlen true
    rw [hnew, if_pos ⟨e1, e2⟩, hk, e1, decide_eq_true e2]
    rw [if_pos rfl] at h1 h2
    rw [h1, h2, if_pos rfl, if_pos rfl]
    exact ⟨sT', GT', w1, w2, by omega⟩
  have hF : ¬ (put = false ∧ id * 1024 + p ≤ x.1) → ∃ s' G', withB (H.length + 1) G.length ((i + 1 : Nat) : Int) ((s, put, ()), G ++ [.cells [.int .i64 (x.1 / 1024), .int .i64 (x.1 % 1024), .int .i64 x.2] .exact]) = some (.inl (s', (put || decide (id * 1024 + p ≤ x.1)), ((i + 1 : Nat) : Int), ()), G') ∧
      Em (H ++ t) s0 3 G' s' (rowsOf ctL (new.map rlv)) ∧ s'.len = new.length := fun e => by
    have h1 := hrows false
    have h2 := hlen false
    have e3 : (put || decide (id * 1024 + p ≤ x.1)) = put := by
      cases put with
      | true => rfl
      | false => rw [decide_eq_false (fun hh => e ⟨rfl, hh⟩)]; rfl
    rw [hnew, if_neg e, hk, e3]
    have nf : ¬ false = true := by decide
    rw [if_neg nf, if_neg nf] at h1 h2
    rw [h1, h2, List.append_nil]
    exact ⟨sF', GF', z1, z2, by omega⟩
  simp only [wrap_succ (show i < 9223372036854775807 by omega)]
  cases hput : put with
  | true =>
    rw [hput] at hF
    obtain ⟨s', G', y1, y2⟩ := hF (fun hh => by cases hh.1)
    simp only [Bool.not_true, cond_false, Option.bind_some]
    exact ⟨s', G', y1, y2⟩
  | false =>
    rw [hput] at hF hT
    by_cases h1 : id < x.1 / 1024
    · obtain ⟨s', G', y1, y2⟩ := hT rfl (by omega)
      simp only [decide_eq_true h1, Bool.not_false, cond_true, Option.bind_some, l2, Option.bind_some, Option.map_some, cond_true, cond_false, List.append_assoc, List.cons_append, List.nil_append, List.length_append, List.length_cons, List.length_nil, Nat.zero_add, rd_t0, rd_t1, rdI_t0, rdI_t1, rdB_t0, rdB_t1, rdM_t0, rdM_t1, rd_c1, rdI_c1, rdB_c1, rdM_c1, rdI_c0, rdB_c0, rdM_c0, wr_t0, wr_t1, wr_c0, wr_c1, setL, List.set, List.getElem?_cons_zero, List.getElem?_cons_succ, un_i, un_b, un_m, un_s, un_sl1, un_sl2, un_sl3, Nat.le_refl, rd_iiib, rd_iiiiii, rd_ibm, rd_iii, rd_iib, rd_ii, rd_3312, rd_iiii, rd_si, rd_33121, rd_33121i, slRow_t0, slRow_t1, sl_c0, sl_c1, t1]
      exact ⟨s', G', y1, y2⟩
    · by_cases h2 : x.1 / 1024 = id
      · by_cases h3 : p ≤ x.1 % 1024
        · obtain ⟨s', G', y1, y2⟩ := hT rfl (by omega)
          simp only [decide_eq_false h1, decide_eq_true h2, decide_eq_true h3, Bool.not_false, cond_true, cond_false, Option.bind_some, l2, Option.bind_some, Option.map_some, cond_true, cond_false, List.append_assoc, List.cons_append, List.nil_append, List.length_append, List.length_cons, List.length_nil, Nat.zero_add, rd_t0, rd_t1, rdI_t0, rdI_t1, rdB_t0, rdB_t1, rdM_t0, rdM_t1, rd_c1, rdI_c1, rdB_c1, rdM_c1, rdI_c0, rdB_c0, rdM_c0, wr_t0, wr_t1, wr_c0, wr_c1, setL, List.set, List.getElem?_cons_zero, List.getElem?_cons_succ, un_i, un_b, un_m, un_s, un_sl1, un_sl2, un_sl3, Nat.le_refl, rd_iiib, rd_iiiiii, rd_ibm, rd_iii, rd_iib, rd_ii, rd_3312, rd_iiii, rd_si, rd_33121, rd_33121i, slRow_t0, slRow_t1, sl_c0, sl_c1, t1]
          exact ⟨s', G', y1, y2⟩
        · obtain ⟨s', G', y1, y2⟩ := hF (fun hh => h3 (by have := hh.2; omega))
          simp only [decide_eq_false h1, decide_eq_true h2, decide_eq_false h3, Bool.not_false, cond_true, cond_false, Option.bind_some]
          exact ⟨s', G', y1, y2⟩
      · obtain ⟨s', G', y1, y2⟩ := hF (fun hh => by have := hh.2; omega)
        simp only [decide_eq_false h1, decide_eq_false h2, Bool.not_false, cond_true, cond_false, Option.bind_some]
        exact ⟨s', G', y1, y2⟩
/-- What a method leaves, once the boxes are written. -/
theorem rf_done (h : RfAt H v st) {t : Heap} {r : Nat} (hr : 0 < r) (hrt : r < t.length) {s0 sF : Sl} (hs0 : ∀ a, s0.p = some a → H.length + r < a.1) {es : Nat} {GF : Heap} {cs : List C} (hE : Em (H ++ t) s0 es GF sF cs)
    (hv : RfAt GF v' st') (hb : ∀ b, blkV v' b → blkV v b ∨ ∃ o, sF.p = some (b, o)) (x y : Blk) : RRes H v ((GF.set H.length x).set (H.length + r) y) v' st' := by
  have hoff : ∀ b, blkV v' b → b ≠ H.length ∧ b ≠ H.length + r ∧ (blkV v b ∨ H.length ≤ b) := fun b hbb => by
    rcases hb b hbb with hv | ⟨o, ho⟩
    · have := h.lt hv
      exact ⟨by omega, by omega, .inl hv⟩
    · rcases hE.o _ ho with hh | ⟨o', hh⟩
      · simp only [List.length_append] at hh
        exact ⟨by omega, by omega, .inr (by omega)⟩
      · have := hs0 _ hh
        simp only at this
        exact ⟨by omega, by omega, .inr (by omega)⟩
  refine ⟨hv.keep (set2_keep GF H.length (H.length + r) x y) fun b hbb hh => ?_, ⟨?_, fun b hbb _ => ?_⟩, fun b hbb => (hoff b hbb).2.2⟩
  · have := hoff b hbb
    omega
  · have := hE.k.len
    simp only [List.length_set, List.length_append] at this ⊢
    omega
  · rw [set_get' (by omega), set_get' (by omega), hE.k.same b (by simp only [List.length_append]; omega) fun ⟨o, ho⟩ => by have := hs0 _ ho; simp only at this; omega, List.getElem?_append_left hbb]
theorem rf_with (h : RfAt H v st) {id p pl : Int} (hp : 0 ≤ p ∧ p < 1024) {x : Int × Bool} (hx : afind st.sp id = some x) : ∃ v' G, ref08_State_with v (id, p, pl, ()) H = some ((v', ()), G) ∧ RRes H v G v' ⟨st.sp, ains st.lv (id * 1024 + p) pl, st.bd, st.wn⟩ := by
  have hmany := h.w.many
  generalize ht : [Blk.cells (vC v) .exact, .cells [.int .i64 id, .int .i64 p, .int .i64 pl] .exact, .cells [.sl 3 Sl.nil, .sl 3 Sl.nil, .sl 1 Sl.nil, .sl 2 Sl.nil] .exact, .cells [] .exact] = t
  have ht0 : t[0]? = some (.cells (vC v) .exact) := by rw [← ht]; rfl
  have ht1 : t[1]? = some (.cells [.int .i64 id, .int .i64 p, .int .i64 pl] .exact) := by rw [← ht]; rfl
  have ht2 : t[2]? = some (.cells [.sl 3 Sl.nil, .sl 3 Sl.nil, .sl 1 Sl.nil, .sl 2 Sl.nil] .exact) := by rw [← ht]; rfl
  have ht3 : t[3]? = some (.cells [] .exact) := by rw [← ht]; rfl
  have htl : t.length = 4 := by rw [← ht]; rfl
  have hs0 : ∀ a, (⟨some (H.length + 3, 0), 0, 0⟩ : Sl).p = some a → H.length + 2 < a.1 := fun a ha => by cases ha; simp only; omega
  have h0 : Em (H ++ t) ⟨some (H.length + 3, 0), 0, 0⟩ 3 (H ++ t) ⟨some (H.length + 3, 0), 0, 0⟩ [] := Em.start ⟨rfl, rfl, fun hh => (by cases hh), fun a ha => by cases ha; exact ⟨rfl, .inr (by rw [tl_get1]; exact ht3)⟩⟩
  obtain ⟨s, G, g1, g2, g3⟩ := emitI (cts := ctL) (step := ref08_State_with.s1 H (H ++ [.cells (vC v) .exact])) st.lv.length (fun i => (outI (id * 1024 + p) pl (st.lv.take i)).map rlv) (fun i => putI (id * 1024 + p) (st.lv.take i)) h0 rfl rfl rfl
    (fun i hi s G hE hn => by
      obtain ⟨s', G', r1, r2, r3⟩ := with_step h hp (pl := pl) (H1 := H ++ [.cells (vC v) .exact]) (by simp) ht0 ht1 (fun a ha => by have := hs0 a ha; omega) hi hE (by rw [hn, List.length_map])
      exact ⟨s', G', r1, r2, by rw [r3, List.length_map]⟩)
    (fun s G hE => by
      obtain ⟨_, hbox⟩ := h.box t ht0 (fun a ha => by have := hs0 a ha; omega) hE
      have hv : rdSl 3 G H.length 1 = some v.2.1 := rdSl_of hbox rfl
      unfold ref08_State_with.s1
      simp only [hv, Option.bind_some, decide_eq_false (show ¬ (st.lv.length : Int) < (v.2.1.len : Int) by rw [h.lvl]; omega), cond_false])
  rw [List.take_length] at g1 g2 g3
  have done : ∀ sF GF, Em (H ++ t) ⟨some (H.length + 3, 0), 0, 0⟩ 3 GF sF (rowsOf ctL ((ains st.lv (id * 1024 + p) pl).map rlv)) → sF.len = (ains st.lv (id * 1024 + p) pl).length →
      ∃ v' G', ((wr GF H.length 1 [.sl 3 sF]).bind fun (H39 : Heap) => Option.bind (α := RfV) (rd H39 (.agg [.sl 3, .sl 3, .sl 1, .sl 2]) H.length 0) fun v40 => (wr H39 (H.length + 2) 0 [.sl 3 v40.1, .sl 3 v40.2.1, .sl 1 v40.2.2.1, .sl 2 v40.2.2.2.1]).bind fun (H41 : Heap) =>
        Option.bind (α := RfV) (rd H41 (.agg [.sl 3, .sl 3, .sl 1, .sl 2]) (H.length + 2) 0) fun v42 => some ((v42, ()), H41)) = some ((v', ()), G') ∧ RRes H v G' v' ⟨st.sp, ains st.lv (id * 1024 + p) pl, st.bd, st.wn⟩ := fun sF GF hE hl => by
    obtain ⟨hG, hbox⟩ := h.box t ht0 (fun a ha => by have := hs0 a ha; omega) hE
    have hres : GF[H.length + 2]? = some (.cells [.sl 3 Sl.nil, .sl 3 Sl.nil, .sl 1 Sl.nil, .sl 2 Sl.nil] .exact) := hE.get (by rw [tl_get1]; exact ht2) fun o ho => by have := hs0 _ ho; simp only at this; omega
    obtain ⟨f1, f2, f3⟩ := fin4 (G := GF) (get_lt hbox) hres rfl (by omega) (v.1, sF, v.2.2.1, v.2.2.2.1, ())
    have hw : wr GF H.length 1 [.sl 3 sF] = some (GF.set H.length (.cells (vC (v.1, sF, v.2.2.1, v.2.2.2.1, ())) .exact)) := wr1_of hbox (by decide) (by simp [vC])
    refine ⟨(v.1, sF, v.2.2.1, v.2.2.2.1, ()), _, (bind_to hw).trans ((bind_to f1).trans ((bind_to f2).trans ((bind_to f3).trans rfl))), rf_done (v' := (v.1, sF, v.2.2.1, v.2.2.2.1, ())) h (by omega) (by omega) hs0 hE ⟨h.w.key hx hp pl, hG.sp, Row.grown hE.g, hG.bd, hG.wn, hG.spl, hl, hG.bdl, hG.wnl⟩ (fun b hb => ?_) _ _⟩
    rcases hb with hb | hb | hb | hb
    · exact .inl (.inl hb)
    · exact .inr hb
    · exact .inl (.inr (.inr (.inl hb)))
    · exact .inl (.inr (.inr (.inr hb)))
  have hall := outI_all (id * 1024 + p) pl st.lv
  subst ht
  unfold ref08_State_with
  simp only [List.append_assoc, List.cons_append, List.nil_append, List.length_append, List.length_cons, List.length_nil, Nat.zero_add]
  cases hput : putI (id * 1024 + p) st.lv with
  | true =>
    rw [hput] at g1 hall
    rw [if_neg (by decide), List.append_nil] at hall
    rw [hall] at g2 g3
    rw [List.length_map] at g3
    obtain ⟨v', G', d1, d2⟩ := done s G g2 g3
    exact ⟨v', G', (bind_to g1).trans d1, d2⟩
  | false =>
    rw [hput] at g1 hall
    rw [if_pos rfl] at hall
    have hleaf : G[H.length + 1]? = some (.cells [.int .i64 id, .int .i64 p, .int .i64 pl] .exact) := g2.get (by rw [tl_get1]; rfl) fun o ho => by have := hs0 _ ho; simp only at this; omega
    have hol := outI_len h.w.lv (id * 1024 + p) pl
    rw [List.length_map] at g3
    obtain ⟨s', G', u1, u2, u3, _⟩ := g2.add [.cells [.int .i64 id, .int .i64 p, .int .i64 pl] .exact] (by decide) (new := [.int .i64 id, .int .i64 p, .int .i64 pl]) (bytes := 24) rfl (by omega) (by omega)
    have e1 : rowsOf ctL ((ains st.lv (id * 1024 + p) pl).map rlv) = rowsOf ctL ((outI (id * 1024 + p) pl st.lv).map rlv) ++ [.int .i64 id, .int .i64 p, .int .i64 pl] := by
      rw [← hall, List.map_append, rowsOf_append']
      congr 1
      show rowsOf ctL [rlv (id * 1024 + p, pl)] = _
      rw [show rlv (id * 1024 + p, pl) = (id, p, pl, ()) from tup3 (key_div id p hp.1 hp.2).1 (key_div id p hp.1 hp.2).2]; rfl
    have e2 : s'.len = (ains st.lv (id * 1024 + p) pl).length := by rw [u3, g3, ← hall, List.length_append]; rfl
    obtain ⟨v', G2, d1, d2⟩ := done s' G' (by rw [e1]; exact u2) e2
    refine ⟨v', G2, (bind_to g1).trans ?_, d2⟩
    have l2 : rd G (.agg [.int .i64, .int .i64, .int .i64]) (H.length + 1) 0 = (some (id, p, pl, ()) : Option (Int × Int × Int × Unit)) := rd_agg_of hleaf (by simp) rfl
    simp only [Bool.not_false, cond_true, l2, Option.bind_some, Option.map_some, cond_true, cond_false, List.append_assoc, List.cons_append, List.nil_append, List.length_append, List.length_cons, List.length_nil, Nat.zero_add, rd_t0, rd_t1, rdI_t0, rdI_t1, rdB_t0, rdB_t1, rdM_t0, rdM_t1, rd_c1, rdI_c1, rdB_c1, rdM_c1, rdI_c0, rdB_c0, rdM_c0, wr_t0, wr_t1, wr_c0, wr_c1, setL, List.set, List.getElem?_cons_zero, List.getElem?_cons_succ, un_i, un_b, un_m, un_s, un_sl1, un_sl2, un_sl3, Nat.le_refl, rd_iiib, rd_iiiiii, rd_ibm, rd_iii, rd_iib, rd_ii, rd_3312, rd_iiii, rd_si, rd_33121, rd_33121i, slRow_t0, slRow_t1, sl_c0, sl_c1]
    exact (bind_to u1).trans d1
end
end Ev
set_option linter.unusedSimpArgs false
set_option linter.unusedVariables false
namespace Ev
open Go (IntKind)

/-- Does a leaf stay? -/
def stayL (id p : Int) (x : Int × Int) : Bool := !(decide (x.1 / 1024 = id) && (decide (p < 0) || decide (x.1 % 1024 = p)))
section
variable {H G : Heap} {v : RfV} {lv : List (Int × Int)}
theorem without_step {K : Heap} {s0 : Sl} (hrow : Row K 3 v.2.1 (rowsOf ctL (lv.map rlv))) (hl : v.2.1.len = lv.length) {id p : Int} (hb : K[H.length]? = some (.cells (vC v) .exact)) (hb0 : ∀ o, s0.p ≠ some (H.length, o)) (hv0 : ∀ b o o', v.2.1.p = some (b, o) → s0.p ≠ some (b, o'))
    {i : Nat} (hi : i < lv.length) (hm : lv.length ≤ 20000) {s : Sl} {cs : List C} (hE : Em K s0 3 G s cs) (hn : s.len ≤ 20000) :
    ∃ s' G', ref08_State_without.s1 id p H (s, (i : Int), ()) G = some (.inl (s', ((i + 1 : Nat) : Int), ()), G') ∧ Em K s0 3 G' s' (cs ++ if stayL id p lv[i] = true then Tup.mk ctL (rlv lv[i]) else []) ∧ s'.len = s.len + if stayL id p lv[i] = true then 1 else 0 := by
  have hbox := hE.get hb hb0
  have hr := hE.row hrow hv0
  have hlm : (lv.map rlv).length = lv.length := List.length_map _
  obtain ⟨b0, o0, r1, r2, _⟩ := Row.rd (cts := ctL) (rows := lv.map rlv) hr (i := i) (by omega) (by decide)
  have r1 : Sl.at 3 v.2.1 (i : Int) = some (b0, o0) := r1
  have hx : (lv.map rlv)[i]'(by omega) = rlv lv[i] := List.getElem_map _
  rw [hx] at r2
  generalize lv[i] = x at r2 ⊢
  have r2' : rd G (.agg [.int .i64, .int .i64, .int .i64]) b0 o0 = (some (x.1 / 1024, x.1 % 1024, x.2, ()) : Option (Int × Int × Int × Unit)) := r2
  have hd : decide ((i : Int) < (v.2.1.len : Int)) = true := decide_eq_true (by rw [hl]; omega)
  have hv : rdSl 3 G H.length 1 = some v.2.1 := rdSl_of hbox rfl
  obtain ⟨sT, GT, t1, t2, t3, _⟩ := hE.add [.cells [.int .i64 (x.1 / 1024), .int .i64 (x.1 % 1024), .int .i64 x.2] .exact, .cells [.int .i64 (x.1 / 1024), .int .i64 (x.1 % 1024), .int .i64 x.2] .exact] (by decide) (new := [.int .i64 (x.1 / 1024), .int .i64 (x.1 % 1024), .int .i64 x.2]) (bytes := 24) rfl (by omega) (by omega)
  have hEF := hE.push [.cells [.int .i64 (x.1 / 1024), .int .i64 (x.1 % 1024), .int .i64 x.2] .exact]
  unfold ref08_State_without.s1
  simp only [hv, hd, cond_true, Option.bind_some, r1]
  simp only [r2', Option.bind_some, Option.map_some, cond_true, cond_false, List.append_assoc, List.cons_append, List.nil_append, List.length_append, List.length_cons, List.length_nil, Nat.zero_add, rd_t0, rd_t1, rdI_t0, rdI_t1, rdB_t0, rdB_t1, rdM_t0, rdM_t1, rd_c1, rdI_c1, rdB_c1, rdM_c1, rdI_c0, rdB_c0, rdM_c0, wr_t0, wr_t1, wr_c0, wr_c1, setL, List.set, List.getElem?_cons_zero, List.getElem?_cons_succ, un_i, un_b, un_m, un_s, un_sl1, un_sl2, un_sl3, Nat.le_refl, rd_iiib, rd_iiiiii, rd_ibm, rd_iii, rd_iib, rd_ii, rd_3312, rd_iiii, rd_si, rd_33121, rd_33121i, slRow_t0, slRow_t1, sl_c0, sl_c1, wrap_succ (show i < 9223372036854775807 by omega)]
  by_cases h1 : x.1 / 1024 = id
  · by_cases h2 : 0 ≤ p
    · by_cases h3 : x.1 % 1024 = p
      · have hs : stayL id p x = false := by unfold stayL; rw [decide_eq_true h1, decide_eq_true h3]; simp
        simp only [decide_eq_true h1, decide_eq_true h2, decide_eq_true h3, Bool.not_true, cond_true, cond_false, Option.bind_some, hs, Bool.false_eq_true, if_false, List.append_nil]
        exact ⟨_, _, rfl, hEF, rfl⟩
      · have hs : stayL id p x = true := by unfold stayL; rw [decide_eq_true h1, decide_eq_false h3, decide_eq_false (show ¬ p < 0 by omega)]; rfl
        simp only [decide_eq_true h1, decide_eq_true h2, decide_eq_false h3, Bool.not_true, Bool.not_false, cond_true, cond_false, Option.bind_some, hs, if_true, Option.bind_some, Option.map_some, cond_true, cond_false, List.append_assoc, List.cons_append, List.nil_append, List.length_append, List.length_cons, List.length_nil, Nat.zero_add, rd_t0, rd_t1, rdI_t0, rdI_t1, rdB_t0, rdB_t1, rdM_t0, rdM_t1, rd_c1, rdI_c1, rdB_c1, rdM_c1, rdI_c0, rdB_c0, rdM_c0, wr_t0, wr_t1, wr_c0, wr_c1, setL, List.set, List.getElem?_cons_zero, List.getElem?_cons_succ, un_i, un_b, un_m, un_s, un_sl1, un_sl2, un_sl3, Nat.le_refl, rd_iiib, rd_iiiiii, rd_ibm, rd_iii, rd_iib, rd_ii, rd_3312, rd_iiii, rd_si, rd_33121, rd_33121i, slRow_t0, slRow_t1, sl_c0, sl_c1, t1]
        exact ⟨_, _, rfl, t2, t3⟩
    · have hs : stayL id p x = false := by unfold stayL; rw [decide_eq_true h1, decide_eq_true (show p < 0 by omega)]; simp
      simp only [decide_eq_true h1, decide_eq_false h2, Bool.not_true, cond_true, cond_false, Option.bind_some, hs, Bool.false_eq_true, if_false, List.append_nil]
      exact ⟨_, _, rfl, hEF, rfl⟩
  · have hs : stayL id p x = true := by unfold stayL; rw [decide_eq_false h1]; rfl
    simp only [decide_eq_false h1, Bool.not_false, cond_true, Option.bind_some, hs, if_true, Option.bind_some, Option.map_some, cond_true, cond_false, List.append_assoc, List.cons_append, List.nil_append, List.length_append, List.length_cons, List.length_nil, Nat.zero_add, rd_t0, rd_t1, rdI_t0, rdI_t1, rdB_t0, rdB_t1, rdM_t0, rdM_t1, rd_c1, rdI_c1, rdB_c1, rdM_c1, rdI_c0, rdB_c0, rdM_c0, wr_t0, wr_t1, wr_c0, wr_c1, setL, List.set, List.getElem?_cons_zero, List.getElem?_cons_succ, un_i, un_b, un_m, un_s, un_sl1, un_sl2, un_sl3, Nat.le_refl, rd_iiib, rd_iiiiii, rd_ibm, rd_iii, rd_iib, rd_ii, rd_3312, rd_iiii, rd_si, rd_33121, rd_33121i, slRow_t0, slRow_t1, sl_c0, sl_c1, t1]
    exact ⟨_, _, rfl, t2, t3⟩
theorem stay_rows (id p : Int) : ∀ lv : List (Int × Int), (lv.map fun x => if stayL id p x = true then Tup.mk ctL (rlv x) else []).flatten = rowsOf ctL ((lv.filter (stayL id p)).map rlv) ∧ (lv.map fun x => if stayL id p x = true then 1 else 0).sum = (lv.filter (stayL id p)).length
  | [] => ⟨rfl, rfl⟩
  | x :: lv => by
    obtain ⟨h1, h2⟩ := stay_rows id p lv
    rw [List.map_cons, List.flatten_cons, h1, List.map_cons, List.sum_cons, h2, List.filter_cons]
    by_cases e : stayL id p x = true
    · rw [if_pos e, if_pos e, if_pos e, List.length_cons]
      exact ⟨rfl, by omega⟩
    · rw [if_neg e, if_neg e, if_neg e]
      exact ⟨rfl, by omega⟩
theorem sum_ones (id p : Int) : ∀ lv : List (Int × Int), (lv.map fun x => if stayL id p x = true then 1 else 0).sum ≤ lv.length
  | [] => Nat.le_refl _
  | x :: lv => by
    have := sum_ones id p lv
    rw [List.map_cons, List.sum_cons, List.length_cons]
    split <;> omega
/-- Leaves away: the others' slice. -/
theorem rf_without (hrow : Row H 3 v.2.1 (rowsOf ctL (lv.map rlv))) (hl : v.2.1.len = lv.length) (hm : lv.length ≤ 19000) (id p : Int) : ∃ s G, ref08_State_without v id p H = some (((v.1, s, v.2.2.1, v.2.2.2.1, ()), ()), G) ∧
    Row G 3 s (rowsOf ctL ((lv.filter (stayL id p)).map rlv)) ∧ s.len = (lv.filter (stayL id p)).length ∧ Keep (fun _ => False) H G ∧ ∀ b o, s.p = some (b, o) → H.length + 2 ≤ b := by
  generalize ht : [Blk.cells (vC v) .exact, .cells [.sl 3 Sl.nil, .sl 3 Sl.nil, .sl 1 Sl.nil, .sl 2 Sl.nil] .exact, .cells [] .exact] = t
  have ht0 : (H ++ t)[H.length]? = some (.cells (vC v) .exact) := by rw [tl_get0, ← ht]; rfl
  have ht1 : (H ++ t)[H.length + 1]? = some (.cells [.sl 3 Sl.nil, .sl 3 Sl.nil, .sl 1 Sl.nil, .sl 2 Sl.nil] .exact) := by rw [tl_get1, ← ht]; rfl
  have ht2 : (H ++ t)[H.length + 2]? = some (.cells [] .exact) := by rw [tl_get1, ← ht]; rfl
  have htl : t.length = 3 := by rw [← ht]; rfl
  have hoff : ∀ b, b < H.length + 2 → ∀ o, (⟨some (H.length + 2, 0), 0, 0⟩ : Sl).p ≠ some (b, o) := fun b hb o hh => by cases hh; omega
  have hrow1 : Row (H ++ t) 3 v.2.1 (rowsOf ctL (lv.map rlv)) := hrow.keep (Keep.app (fun _ => False) H t) fun _ _ _ hf => hf
  have h0 : Em (H ++ t) ⟨some (H.length + 2, 0), 0, 0⟩ 3 (H ++ t) ⟨some (H.length + 2, 0), 0, 0⟩ [] := Em.start ⟨rfl, rfl, fun hh => (by cases hh), fun a ha => by cases ha; exact ⟨rfl, .inr ht2⟩⟩
  obtain ⟨s, G, g1, g2, g3⟩ := emitN (step := ref08_State_without.s1 id p H) lv (fun x => if stayL id p x = true then Tup.mk ctL (rlv x) else []) (fun x => if stayL id p x = true then 1 else 0) h0
    (fun i hi s G cs hE hn => without_step hrow1 hl ht0 (hoff _ (by omega)) (fun b o o' hp => hoff b (by have := hrow.lt hp; omega) o') hi (by omega) hE (by
      have h1 := sum_take_le (lv.map fun x => if stayL id p x = true then 1 else 0) i
      have h2 := sum_ones id p lv
      rw [← List.map_take] at h1
      rw [hn]; simp only; omega))
    (fun s G cs hE => by
      have hv : rdSl 3 G H.length 1 = some v.2.1 := rdSl_of (hE.get ht0 (hoff _ (by omega))) rfl
      unfold ref08_State_without.s1
      simp only [hv, Option.bind_some, decide_eq_false (show ¬ (lv.length : Int) < (v.2.1.len : Int) by rw [hl]; omega), cond_false])
  rw [List.nil_append, (stay_rows id p lv).1] at g2
  rw [(stay_rows id p lv).2] at g3
  have hbox := g2.get ht0 (hoff _ (by omega))
  have hres := g2.get ht1 (hoff _ (by omega))
  obtain ⟨f1, f2, f3⟩ := fin4 (G := G) (get_lt hbox) hres rfl (by omega) (v.1, s, v.2.2.1, v.2.2.2.1, ())
  have hw : wr G H.length 1 [.sl 3 s] = some (G.set H.length (.cells (vC (v.1, s, v.2.2.1, v.2.2.2.1, ())) .exact)) := wr1_of hbox (by decide) (by simp [vC])
  have hso : ∀ b o, s.p = some (b, o) → H.length + 2 ≤ b := fun b o hp => by
    rcases g2.o _ hp with hh | ⟨o', hh⟩
    · simp only [List.length_append] at hh; omega
    · have hh : some (H.length + 2, 0) = some (b, o') := hh
      cases hh; omega
  have kf : Keep (fun b => b = H.length ∨ b = H.length + 1) G ((G.set H.length (.cells (vC (v.1, s, v.2.2.1, v.2.2.2.1, ())) .exact)).set (H.length + 1) (.cells (vC (v.1, s, v.2.2.1, v.2.2.2.1, ())) .exact)) := set2_keep _ _ _ _ _
  subst ht
  refine ⟨s, _, ?_, (Row.grown g2.g).keep kf fun b o hp hh => by have := hso b o hp; omega, by rw [g3]; exact Nat.zero_add _, ?_, hso⟩
  · unfold ref08_State_without
    simp only [List.append_assoc, List.cons_append, List.nil_append, List.length_append, List.length_cons, List.length_nil, Nat.zero_add]
    exact (bind_to g1).trans ((bind_to hw).trans ((bind_to f1).trans ((bind_to f2).trans ((bind_to f3).trans rfl))))
  · refine ⟨by have h1 := g2.k.len; have h2 := kf.len; simp only [List.length_append] at h1; omega, fun b hb _ => ?_⟩
    have hne : ¬ (b = H.length ∨ b = H.length + 1) := by omega
    have hbG : b < G.length := by have h1 := g2.k.len; simp only [List.length_append] at h1; omega
    rw [kf.same b hbG hne, g2.k.same b (by simp only [List.length_append]; omega) (fun ⟨o, ho⟩ => hoff b (by omega) o ho), List.getElem?_append_left hb]
end
theorem stay_off (lv : List (Int × Int)) (id : Int) {p : Int} (hp : p < 0) : lv.filter (stayL id p) = lvOff lv id := by
  unfold lvOff
  congr 1
  funext x
  unfold stayL
  rw [decide_eq_true hp]; simp
theorem adrop_filter {α : Type} {l : List (Int × α)} (h : Asc l) (k : Int) : l.filter (fun x => !decide (x.1 = k)) = adrop l k := by
  induction l with
  | nil => rfl
  | cons x l ih =>
    rw [adrop, List.filter_cons]
    by_cases e : x.1 = k
    · rw [if_neg (by simp [e]), if_pos e]
      exact List.filter_eq_self.2 fun y hy => by have := h.head hy; simp; omega
    · rw [if_pos (by simp [e]), if_neg e, ih h.tail]
theorem stay_drop {lv : List (Int × Int)} (h : Asc lv) (id : Int) {p : Int} (hp : 0 ≤ p ∧ p < 1024) : lv.filter (stayL id p) = adrop lv (id * 1024 + p) := by
  rw [← adrop_filter h]
  congr 1
  funext x
  unfold stayL
  rw [decide_eq_false (show ¬ p < 0 by omega)]
  by_cases e : x.1 = id * 1024 + p
  · rw [decide_eq_true e, decide_eq_true (show x.1 / 1024 = id by omega), decide_eq_true (show x.1 % 1024 = p by omega)]; rfl
  · rw [decide_eq_false e]
    by_cases e1 : x.1 / 1024 = id
    · rw [decide_eq_false (show ¬ x.1 % 1024 = p by omega)]; simp
    · rw [decide_eq_false e1]; rfl
end Ev
set_option linter.unusedSimpArgs false
set_option linter.unusedVariables false
namespace Ev
open Go (IntKind)

section
variable {H G : Heap} {v : RfV} {st : Sta}
theorem rf_find (h : RfAt H v st) (id : Int) : ∃ r, ref08_State_find v id H = some ((r, ()), H ++ [.cells (vC v) .exact]) ∧ (afind st.sp id = none → r = -1) ∧ ∀ x, afind st.sp id = some x → ∃ i : Nat, r = (i : Int) ∧ ∃ hi : i < st.sp.length, st.sp[i] = (id, x) := by
  have hH := h.keep (Keep.app (fun _ => False) H [.cells (vC v) .exact]) fun _ _ hf => hf
  have hv : rdSl 3 (H ++ [.cells (vC v) .exact]) H.length 0 = some v.1 := rdSl_of (by rw [tl_get0]; rfl) rfl
  have hlm : (st.sp.map rsp).length = st.sp.length := List.length_map _
  have hfew := h.w.few
  obtain ⟨x, G, g1, rfl, g2⟩ := loop_rise (step := ref08_State_find.s1 id H) st.sp.length (fun i y G => y = ((i : Int), ()) ∧ G = H ++ [.cells (vC v) .exact] ∧ ∀ j (hj : j < st.sp.length), j < i → st.sp[j].1 ≠ id)
    (fun x G => G = H ++ [.cells (vC v) .exact] ∧ ((x = .inl () ∧ afind st.sp id = none) ∨ ∃ i : Nat, x = .inr ((i : Int), ()) ∧ ∃ hi : i < st.sp.length, st.sp[i].1 = id))
    (fun i y G hi ⟨hy, hG, hj⟩ => by
      subst hy hG
      obtain ⟨b0, o0, r1, r2, _, cs, bk, r3, r4, r5⟩ := Row.rd (cts := ctP) (rows := st.sp.map rsp) hH.sp (i := i) (by omega) (by decide)
      have r1 : Sl.at 3 v.1 (i : Int) = some (b0, o0) := r1
      have hx : (st.sp.map rsp)[i]'(by omega) = rsp st.sp[i] := List.getElem_map _
      rw [hx] at r5
      have r6 : rdI .i64 (H ++ [.cells (vC v) .exact]) b0 o0 = some st.sp[i].1 := by
        refine rdI_of r3 ?_
        have := congrArg (fun l => l[0]?) r5
        simp only [List.getElem?_take, List.getElem?_drop] at this
        have h2 : cs[o0]? = (Tup.mk ctP (rsp st.sp[i]))[0]? := by simpa using this
        exact h2
      have hd : decide ((i : Int) < (v.1.len : Int)) = true := decide_eq_true (by rw [h.spl]; omega)
      by_cases e : st.sp[i].1 = id
      · right
        refine ⟨_, _, ?_, rfl, .inr ⟨i, rfl, hi, e⟩⟩
        unfold ref08_State_find.s1
        simp only [hv, hd, cond_true, Option.bind_some, r1, r6, decide_eq_true e]
      · left
        refine ⟨_, _, ?_, rfl, rfl, fun j hjl hji => ?_⟩
        · unfold ref08_State_find.s1
          simp only [hv, hd, cond_true, Option.bind_some, r1, r6, decide_eq_false e, cond_false]
          rw [wrap_succ (by omega)]
        · by_cases e2 : j = i
          · subst e2; exact e
          · exact hj j hjl (by omega))
    (fun y G ⟨hy, hG, hj⟩ => by
      subst hy hG
      refine ⟨_, _, ?_, rfl, .inl ⟨rfl, afind_none fun x hx e => ?_⟩⟩
      · unfold ref08_State_find.s1
        simp only [hv, Option.bind_some, decide_eq_false (show ¬ (st.sp.length : Int) < (v.1.len : Int) by rw [h.spl]; omega), cond_false]
      · obtain ⟨j, hj1, rfl⟩ := List.getElem_of_mem hx
        exact hj j hj1 hj1 e) (y := (0, ())) (H := H ++ [.cells (vC v) .exact]) ⟨rfl, rfl, fun j _ hj => absurd hj (Nat.not_lt_zero _)⟩
  have hg : ∀ r, Sum.elim (fun _ => some (((-1 : Int), ()), H ++ [Blk.cells (vC v) .exact])) (fun z : Int × Unit => some ((z.1, ()), H ++ [Blk.cells (vC v) .exact])) x = some ((r, ()), H ++ [Blk.cells (vC v) .exact]) → ref08_State_find v id H = some ((r, ()), H ++ [.cells (vC v) .exact]) := fun r hr => by
    unfold ref08_State_find
    exact (bind_to g1).trans hr
  rcases g2 with ⟨rfl, hn⟩ | ⟨i, rfl, hi, he⟩
  · exact ⟨-1, hg _ rfl, fun _ => rfl, fun x hx => by rw [hn] at hx; cases hx⟩
  · have hf := h.w.sp.find (k := st.sp[i].1) (v := st.sp[i].2) (List.getElem_mem hi)
    rw [he] at hf
    exact ⟨(i : Int), hg _ rfl, fun hn => (by rw [hf] at hn; cases hn), fun x hx => by
      rw [hf] at hx
      cases hx
      exact ⟨i, rfl, hi, by rw [← he]⟩⟩
theorem row_int {K : Heap} {cts : List CT} {s : Sl} {rows : List (Tup cts)} (h : Row K cts.length s (rowsOf cts rows)) {i : Nat} (hi : i < rows.length) (hpos : 0 < cts.length) {j : Nat} {n : Int} (hj : j < cts.length) (hn : (Tup.mk cts rows[i])[j]? = some (.int .i64 n)) :
    ∃ b o, Sl.at cts.length s (i : Int) = some (b, o) ∧ rdI .i64 K b (o + j) = some n := by
  obtain ⟨b, o, r1, _, _, cs, bk, r3, r4, r5⟩ := h.rd hi hpos
  refine ⟨b, o, r1, rdI_of r3 ?_⟩
  have := congrArg (fun l => l[j]?) r5
  simp only [List.getElem?_take, List.getElem?_drop, if_pos hj, hn] at this
  exact this
theorem rf_refs (h : RfAt H v st) (c : Int) : ref08_State_Refs v c H = some (((cnt st.lv c : Int), ()), H ++ [.cells (vC v) .exact]) := by
  have hH := h.keep (Keep.app (fun _ => False) H [.cells (vC v) .exact]) fun _ _ hf => hf
  have hv : rdSl 3 (H ++ [.cells (vC v) .exact]) H.length 1 = some v.2.1 := rdSl_of (by rw [tl_get0]; rfl) rfl
  have hlm : (st.lv.map rlv).length = st.lv.length := List.length_map _
  have hmany := h.w.many
  have g1 : loopW (ref08_State_Refs.s1 c H) (0, 0, ()) (H ++ [.cells (vC v) .exact]) = some (((cnt st.lv c : Int), ()), H ++ [.cells (vC v) .exact]) := by
    refine loop_for' st.lv.length (fun i => ((cnt (st.lv.take i) c : Int), (i : Int), ())) (fun _ => H ++ [.cells (vC v) .exact]) rfl rfl (fun i hi => ?_) ?_
    · have hx : (st.lv.map rlv)[i]'(by omega) = rlv st.lv[i] := List.getElem_map _
      obtain ⟨b0, o0, r1, r2⟩ := row_int (cts := ctL) (rows := st.lv.map rlv) hH.lv (i := i) (by omega) (by decide) (j := 2) (n := st.lv[i].2) (by decide) (by rw [hx]; rfl)
      have r1 : Sl.at 3 v.2.1 (i : Int) = some (b0, o0) := r1
      have hd : decide ((i : Int) < (v.2.1.len : Int)) = true := decide_eq_true (by rw [h.lvl]; omega)
      have hc := cnt_le (st.lv.take i) c
      rw [List.length_take] at hc
      unfold ref08_State_Refs.s1
      simp only [hv, hd, cond_true, Option.bind_some, r1, r2]
      rw [take_snoc hi, cnt_append, cnt_cons, cnt_nil, wrap_succ (by omega), wrap_succ (by omega)]
      by_cases e : st.lv[i].2 = c
      · rw [decide_eq_true e, if_pos e]; rfl
      · rw [decide_eq_false e, if_neg e]; rfl
    · unfold ref08_State_Refs.s1
      simp only [hv, Option.bind_some, decide_eq_false (show ¬ (st.lv.length : Int) < (v.2.1.len : Int) by rw [h.lvl]; omega), cond_false, List.take_length]
  unfold ref08_State_Refs
  exact (bind_to g1).trans rfl
theorem pgs_snoc (l : List (Int × Int)) (x : Int × Int) (id : Int) : (pgs (l ++ [x]) id).length = (pgs l id).length + if x.1 / 1024 = id then 1 else 0 := by
  rw [pgs_len, pgs_len, List.filter_append, List.length_append, List.filter_cons]
  by_cases e : x.1 / 1024 = id
  · rw [if_pos (decide_eq_true e), if_pos e]; rfl
  · rw [if_neg (by simpa using e), if_neg e]; rfl
theorem rf_pages (h : RfAt H v st) (id : Int) : ref08_State_Pages v id H = some ((((pgs st.lv id).length : Int), ()), H ++ [.cells (vC v) .exact]) := by
  have hH := h.keep (Keep.app (fun _ => False) H [.cells (vC v) .exact]) fun _ _ hf => hf
  have hv : rdSl 3 (H ++ [.cells (vC v) .exact]) H.length 1 = some v.2.1 := rdSl_of (by rw [tl_get0]; rfl) rfl
  have hlm : (st.lv.map rlv).length = st.lv.length := List.length_map _
  have hmany := h.w.many
  have g1 : loopW (ref08_State_Pages.s1 id H) (0, 0, ()) (H ++ [.cells (vC v) .exact]) = some ((((pgs st.lv id).length : Int), ()), H ++ [.cells (vC v) .exact]) := by
    refine loop_for' st.lv.length (fun i => (((pgs (st.lv.take i) id).length : Int), (i : Int), ())) (fun _ => H ++ [.cells (vC v) .exact]) rfl rfl (fun i hi => ?_) ?_
    · have hx : (st.lv.map rlv)[i]'(by omega) = rlv st.lv[i] := List.getElem_map _
      obtain ⟨b0, o0, r1, r2⟩ := row_int (cts := ctL) (rows := st.lv.map rlv) hH.lv (i := i) (by omega) (by decide) (j := 0) (n := st.lv[i].1 / 1024) (by decide) (by rw [hx]; rfl)
      have r1 : Sl.at 3 v.2.1 (i : Int) = some (b0, o0) := r1
      have hd : decide ((i : Int) < (v.2.1.len : Int)) = true := decide_eq_true (by rw [h.lvl]; omega)
      have hc : (pgs (st.lv.take i) id).length ≤ (st.lv.take i).length := by rw [pgs_len]; exact List.length_filter_le _ _
      rw [List.length_take] at hc
      rw [Nat.add_zero] at r2
      unfold ref08_State_Pages.s1
      simp only [hv, hd, cond_true, Option.bind_some, r1, r2]
      rw [take_snoc hi, pgs_snoc, wrap_succ (by omega), wrap_succ (by omega)]
      by_cases e : st.lv[i].1 / 1024 = id
      · rw [decide_eq_true e, if_pos e]; rfl
      · rw [decide_eq_false e, if_neg e]; rfl
    · unfold ref08_State_Pages.s1
      simp only [hv, Option.bind_some, decide_eq_false (show ¬ (st.lv.length : Int) < (v.2.1.len : Int) by rw [h.lvl]; omega), cond_false, List.take_length]
  unfold ref08_State_Pages
  exact (bind_to g1).trans rfl
end
end Ev
set_option linter.unusedSimpArgs false
set_option linter.unusedVariables false
namespace Ev
open Go (IntKind)

section
variable {H G : Heap} {v : RfV} {st : Sta}
theorem rf_get (h : RfAt H v st) (id p : Int) : ∃ G, ref08_State_Get v id p H = some (((afind (pgs st.lv id) p).getD 0, (afind (pgs st.lv id) p).isSome, ()), G) ∧ Keep (fun _ => False) H G := by
  have hk0 := Keep.app (fun _ => False) H [.cells (vC v) .exact]
  have hH := h.keep hk0 fun _ _ hf => hf
  have hb0 : (H ++ [Blk.cells (vC v) .exact])[H.length]? = some (.cells (vC v) .exact) := by rw [tl_get0]; rfl
  have hlm : (st.lv.map rlv).length = st.lv.length := List.length_map _
  have hmany := h.w.many
  obtain ⟨x, G, g1, g2, g3⟩ := loop_rise (step := ref08_State_Get.s1 id p H) st.lv.length (fun i y G => y = ((i : Int), ()) ∧ Keep (fun _ => False) (H ++ [.cells (vC v) .exact]) G ∧ ∀ j (hj : j < st.lv.length), j < i → ¬ (st.lv[j].1 / 1024 = id ∧ st.lv[j].1 % 1024 = p))
    (fun x G => Keep (fun _ => False) (H ++ [.cells (vC v) .exact]) G ∧ ((x = .inl () ∧ afind (pgs st.lv id) p = none) ∨ ∃ c, x = .inr (c, true, ()) ∧ afind (pgs st.lv id) p = some c))
    (fun i y G hi ⟨hy, hk, hj⟩ => by
      subst hy
      have hG := hH.keep hk fun _ _ hf => hf
      have hv : rdSl 3 G H.length 1 = some v.2.1 := rdSl_of (hk.get hb0 fun hf => hf) rfl
      obtain ⟨b0, o0, r1, r2, _⟩ := Row.rd (cts := ctL) (rows := st.lv.map rlv) hG.lv (i := i) (by omega) (by decide)
      have r1 : Sl.at 3 v.2.1 (i : Int) = some (b0, o0) := r1
      have hx : (st.lv.map rlv)[i]'(by omega) = rlv st.lv[i] := List.getElem_map _
      rw [hx] at r2
      have r2' : rd G (.agg [.int .i64, .int .i64, .int .i64]) b0 o0 = (some (st.lv[i].1 / 1024, st.lv[i].1 % 1024, st.lv[i].2, ()) : Option (Int × Int × Int × Unit)) := r2
      have hd : decide ((i : Int) < (v.2.1.len : Int)) = true := decide_eq_true (by rw [h.lvl]; omega)
      have hk2 := hk.trans (Keep.app (fun _ => False) G [.cells [.int .i64 (st.lv[i].1 / 1024), .int .i64 (st.lv[i].1 % 1024), .int .i64 st.lv[i].2] .exact])
      have hno : ¬ (st.lv[i].1 / 1024 = id ∧ st.lv[i].1 % 1024 = p) → ∀ j (hj : j < st.lv.length), j < i + 1 → ¬ (st.lv[j].1 / 1024 = id ∧ st.lv[j].1 % 1024 = p) := fun e j hjl hji => by
        by_cases e2 : j = i
        · subst e2; exact e
        · exact hj j hjl (by omega)
      unfold ref08_State_Get.s1
      simp only [hv, hd, cond_true, Option.bind_some, r1]
      simp only [r2', Option.bind_some, Option.map_some, cond_true, cond_false, List.append_assoc, List.cons_append, List.nil_append, List.length_append, List.length_cons, List.length_nil, Nat.zero_add, rd_t0, rd_t1, rdI_t0, rdI_t1, rdB_t0, rdB_t1, rdM_t0, rdM_t1, rd_c1, rdI_c1, rdB_c1, rdM_c1, rdI_c0, rdB_c0, rdM_c0, wr_t0, wr_t1, wr_c0, wr_c1, setL, List.set, List.getElem?_cons_zero, List.getElem?_cons_succ, un_i, un_b, un_m, un_s, un_sl1, un_sl2, un_sl3, Nat.le_refl, rd_iiib, rd_iiiiii, rd_ibm, rd_iii, rd_iib, rd_ii, rd_3312, rd_iiii, rd_si, rd_33121, rd_33121i, slRow_t0, slRow_t1, sl_c0, sl_c1, wrap_succ (show i < 9223372036854775807 by omega)]
      by_cases e1 : st.lv[i].1 / 1024 = id
      · by_cases e2 : st.lv[i].1 % 1024 = p
        · right
          simp only [decide_eq_true e1, decide_eq_true e2, cond_true]
          refine ⟨_, _, rfl, hk2, .inr ⟨st.lv[i].2, rfl, ?_⟩⟩
          have hf := h.w.lv.find (k := st.lv[i].1) (v := st.lv[i].2) (List.getElem_mem hi)
          rw [pgs_find h.w.lv, if_pos (by omega), show id * 1024 + p = st.lv[i].1 by omega]
          exact hf
        · left
          simp only [decide_eq_true e1, decide_eq_false e2, cond_true, cond_false]
          exact ⟨_, _, rfl, rfl, hk2, hno fun hh => e2 hh.2⟩
      · left
        simp only [decide_eq_false e1, cond_false]
        exact ⟨_, _, rfl, rfl, hk2, hno fun hh => e1 hh.1⟩)
    (fun y G ⟨hy, hk, hj⟩ => by
      subst hy
      have hv : rdSl 3 G H.length 1 = some v.2.1 := rdSl_of (hk.get hb0 fun hf => hf) rfl
      refine ⟨_, _, ?_, hk, .inl ⟨rfl, afind_none fun y hy e => ?_⟩⟩
      · unfold ref08_State_Get.s1
        simp only [hv, Option.bind_some, decide_eq_false (show ¬ (st.lv.length : Int) < (v.2.1.len : Int) by rw [h.lvl]; omega), cond_false]
      · have hm := pgs_mem hy
        obtain ⟨j, hj1, hj2⟩ := List.getElem_of_mem hm.2.2
        refine hj j hj1 hj1 ?_
        rw [hj2]
        simp only
        omega) (y := (0, ())) (H := H ++ [.cells (vC v) .exact]) ⟨rfl, Keep.refl _ _, fun j _ hj => absurd hj (Nat.not_lt_zero _)⟩
  refine ⟨G, ?_, hk0.trans g2⟩
  unfold ref08_State_Get
  refine (bind_to g1).trans ?_
  rcases g3 with ⟨rfl, hn⟩ | ⟨c, rfl, hc⟩
  · rw [hn]; rfl
  · rw [hc]; rfl
theorem rf_snoc (l : List (Int × Int)) (x : Int × Int) : (rfOf (l ++ [x])).length = (rfOf l).length + if cnt l x.2 = 0 then 1 else 0 := by
  have e : ains (rfOf l) x.2 ((cnt l x.2 : Int) + 1) = rfOf (l ++ [x]) := ((rfOf_ok l).more (lv' := l ++ [x]) fun c => by rw [cnt_append, cnt_cons, cnt_nil]; omega).uniq (rfOf_ok _)
  rw [← e, ains_length (rfOf_ok l).asc, (rfOf_ok l).find]
  by_cases h0 : cnt l x.2 = 0
  · rw [if_pos h0, if_pos h0]; rfl
  · rw [if_neg h0, if_neg h0]; rfl
theorem rf_live (h : RfAt H v st) : ref08_State_Live v H = some ((((rfOf st.lv).length : Int), ()), H ++ [.cells (vC v) .exact]) := by
  have hH := h.keep (Keep.app (fun _ => False) H [.cells (vC v) .exact]) fun _ _ hf => hf
  have hv : rdSl 3 (H ++ [.cells (vC v) .exact]) H.length 1 = some v.2.1 := rdSl_of (by rw [tl_get0]; rfl) rfl
  have hlm : (st.lv.map rlv).length = st.lv.length := List.length_map _
  have hmany := h.w.many
  have row : ∀ i (hi : i < st.lv.length), ∃ b o, Sl.at 3 v.2.1 (i : Int) = some (b, o) ∧ rdI .i64 (H ++ [.cells (vC v) .exact]) b (o + 2) = some st.lv[i].2 := fun i hi => by
    have hx : (st.lv.map rlv)[i]'(by omega) = rlv st.lv[i] := List.getElem_map _
    exact row_int (cts := ctL) (rows := st.lv.map rlv) hH.lv (i := i) (by omega) (by decide) (j := 2) (n := st.lv[i].2) (by decide) (by rw [hx]; rfl)
  have hle : ∀ i, (rfOf (st.lv.take i)).length ≤ i := fun i => by
    induction i with
    | zero => exact Nat.le_refl _
    | succ i ih =>
      by_cases hi : i < st.lv.length
      · rw [take_snoc hi, rf_snoc]; split <;> omega
      · rw [List.take_of_length_le (by omega)]
        rw [List.take_of_length_le (by omega)] at ih
        omega
  have inner : ∀ (c i : Nat) (hi : i < st.lv.length), loopW (ref08_State_Live.s1 H ((c : Int), (i : Int), ())) (true, 0, ()) (H ++ [.cells (vC v) .exact]) = some ((decide (cnt (st.lv.take i) st.lv[i].2 = 0), ()), H ++ [.cells (vC v) .exact]) := fun c i hi => by
    obtain ⟨b1, o1, r1, r2⟩ := row i hi
    refine loop_for' i (fun j => (decide (cnt (st.lv.take j) st.lv[i].2 = 0), (j : Int), ())) (fun _ => H ++ [.cells (vC v) .exact]) rfl rfl (fun j hj => ?_) ?_
    · obtain ⟨b2, o2, r3, r4⟩ := row j (by omega)
      have hw := wrap_succ (show j < 9223372036854775807 by omega)
      unfold ref08_State_Live.s1
      simp only [decide_eq_true (show (j : Int) < (i : Int) by omega), cond_true]
      rw [take_snoc (show j < st.lv.length by omega), cnt_append, cnt_cons, cnt_nil]
      by_cases e : cnt (st.lv.take j) st.lv[i].2 = 0
      · rw [decide_eq_true e, cond_true]
        simp only [hv, Option.bind_some, r1, r2, r3, r4, hw]
        by_cases e2 : st.lv[j].2 = st.lv[i].2
        · rw [decide_eq_true e2, if_pos e2, decide_eq_false (by omega)]; rfl
        · rw [decide_eq_false e2, if_neg e2, decide_eq_true (by omega)]; rfl
      · rw [decide_eq_false e, cond_false, hw, decide_eq_false (by omega)]
    · unfold ref08_State_Live.s1
      simp only [decide_eq_false (show ¬ (i : Int) < (i : Int) by omega), cond_false]
  have g1 : loopW (ref08_State_Live.s2 H) (0, 0, ()) (H ++ [.cells (vC v) .exact]) = some ((((rfOf st.lv).length : Int), ()), H ++ [.cells (vC v) .exact]) := by
    refine loop_for' st.lv.length (fun i => (((rfOf (st.lv.take i)).length : Int), (i : Int), ())) (fun _ => H ++ [.cells (vC v) .exact]) rfl rfl (fun i hi => ?_) ?_
    · have h1 := hle i
      unfold ref08_State_Live.s2
      simp only [hv, Option.bind_some, decide_eq_true (show (i : Int) < (v.2.1.len : Int) by rw [h.lvl]; omega), cond_true, inner _ i hi]
      rw [take_snoc hi, rf_snoc, wrap_succ (by omega), wrap_succ (by omega)]
      by_cases e : cnt (st.lv.take i) st.lv[i].2 = 0
      · rw [decide_eq_true e, if_pos e]; rfl
      · rw [decide_eq_false e, if_neg e]; rfl
    · unfold ref08_State_Live.s2
      simp only [hv, Option.bind_some, decide_eq_false (show ¬ (st.lv.length : Int) < (v.2.1.len : Int) by rw [h.lvl]; omega), cond_false, List.take_length]
  unfold ref08_State_Live
  exact (bind_to g1).trans rfl
end
end Ev
