/- Lists into which something is put behind those of smaller keys; copies of leaves. Plain facts. What comes of a computation, and what holds then. The plain state: spaces made. The plain state: bad blocks. The plain state: how often blocks were erased. The plain state: spaces dropped, a leaf away. The plain state: what a record does. The plain state: copies, and all that a record does. The plain state: records that are looked at first; what it tells of itself. -/
import Derived.Test.YtfmefnejaocopaaSRfD
import Derived.Test.YtfmefnejaocopaaEm
import Derived.Test.YtfmefnejaocopaaSStH
set_option linter.unusedSimpArgs false
set_option linter.unusedVariables false
namespace Ev
open Go (IntKind)

section
variable {α : Type}
def putS (k : Int) (l : List (Int × α)) : Bool := l.any fun x => decide (k < x.1)
def outS (k : Int) (v : α) (l : List (Int × α)) : List (Int × α) := if putS k l = true then ains l k v else adrop l k
theorem putS_false {k : Int} {l : List (Int × α)} (h : putS k l = false) : ∀ x ∈ l, x.1 ≤ k := fun x hx => by
  unfold putS at h
  rw [List.any_eq_false] at h
  have := h x hx
  simp at this; exact this
theorem putS_putI {k : Int} {l : List (Int × α)} (h : putS k l = true) : putI k l = true := by
  unfold putS at h
  unfold putI
  rw [List.any_eq_true] at h ⊢
  obtain ⟨x, hx, hk⟩ := h
  simp only [decide_eq_true_eq] at hk
  exact ⟨x, hx, by simp; omega⟩
theorem adrop_snoc {l : List (Int × α)} {k : Int} {x : Int × α} (h : Asc (l ++ [x])) : adrop (l ++ [x]) k = adrop l k ++ if x.1 = k then [] else [x] := by
  have hl : Asc l := h.sub (List.sublist_append_left _ _)
  rw [← adrop_filter h, ← adrop_filter hl, List.filter_append, List.filter_cons]
  congr 1
  by_cases e : x.1 = k
  · rw [if_neg (by simp [e]), if_pos e]; rfl
  · rw [if_pos (by simp [e]), if_neg e]; rfl
theorem adrop_lt {l : List (Int × α)} {k : Int} (h : Asc l) (hk : ∀ x ∈ l, x.1 ≤ k) : ∀ x ∈ adrop l k, x.1 < k := fun x hx => by
  rw [← adrop_filter h] at hx
  have := List.mem_filter.1 hx
  have h1 := hk x this.1
  have h2 := this.2
  simp only [Bool.not_eq_true', decide_eq_false_iff_not] at h2
  omega
theorem putI_no {l : List (Int × α)} {k : Int} (hk : ∀ x ∈ l, x.1 < k) : putI k l = false := by
  unfold putI
  rw [List.any_eq_false]
  intro x hx
  have := hk x hx
  simp; omega
theorem outS_snoc {l : List (Int × α)} {k : Int} (v : α) {x : Int × α} (h : Asc (l ++ [x])) :
    putS k (l ++ [x]) = (putS k l || decide (k < x.1)) ∧ outS k v (l ++ [x]) = outS k v l ++ (if putS k l = false ∧ k < x.1 then [(k, v)] else []) ++ (if x.1 = k then [] else [x]) := by
  have h1 : putS k (l ++ [x]) = (putS k l || decide (k < x.1)) := by unfold putS; rw [List.any_append]; simp
  refine ⟨h1, ?_⟩
  have hl : Asc l := h.sub (List.sublist_append_left _ _)
  unfold outS
  rw [h1]
  cases hp : putS k l with
  | true => rw [Bool.true_or, if_pos rfl, if_pos rfl, if_neg (fun hh => absurd hh.1 (by decide)), List.append_nil, ains_app v h (putS_putI hp)]
  | false =>
    have hle := putS_false hp
    have nf : ¬ false = true := by decide
    rw [Bool.false_or, if_neg nf]
    by_cases e : k < x.1
    · rw [if_pos (decide_eq_true e), if_pos ⟨rfl, e⟩, if_neg (by omega), ← ains_drop h, adrop_snoc h, if_neg (by omega)]
      have hd := adrop_lt hl hle
      have ha : Asc (adrop l k ++ [x]) := by
        have := h.drop k
        rwa [adrop_snoc h, if_neg (by omega)] at this
      obtain ⟨u1, u2⟩ := outI_snoc (k := k) v ha
      have h2 := putI_no hd
      have h3 : k ≤ x.1 := by omega
      unfold outI at u2
      rw [u1, h2, Bool.false_or, if_pos (decide_eq_true h3), if_neg nf, if_pos ⟨rfl, h3⟩, if_neg (by omega)] at u2
      exact u2
    · rw [decide_eq_false e, if_neg nf, if_neg (fun hh => e hh.2), List.append_nil, adrop_snoc h]
theorem outS_all {l : List (Int × α)} (h : Asc l) (k : Int) (v : α) : (outS k v l ++ if putS k l = false then [(k, v)] else []) = ains l k v := by
  unfold outS
  cases hp : putS k l with
  | true => rw [if_pos rfl, if_neg (by decide), List.append_nil]
  | false => rw [if_neg (by decide), if_pos rfl, ← ains_drop h, ains_snoc v (adrop_lt h (putS_false hp))]
theorem outS_len {l : List (Int × α)} (h : Asc l) (k : Int) (v : α) : (outS k v l).length ≤ l.length + 1 := by
  unfold outS
  split
  · rw [ains_length h]; split <;> omega
  · have := adrop_length (l := l) (k := k); omega
end
theorem pgs_take (lv : List (Int × Int)) (id : Int) {i : Nat} (hi : i < lv.length) : pgs (lv.take (i + 1)) id = pgs (lv.take i) id ++ if lv[i].1 / 1024 = id then [(lv[i].1 % 1024, lv[i].2)] else [] := by
  rw [take_snoc hi]
  unfold pgs
  rw [List.filter_append, List.map_append, List.filter_cons]
  by_cases e : lv[i].1 / 1024 = id
  · rw [if_pos (decide_eq_true e), if_pos e]; rfl
  · rw [if_neg (by simpa using e), if_neg e]; rfl
theorem insAll_snoc (id : Int) (lv P : List (Int × Int)) (x : Int × Int) : insAll id lv (P ++ [x]) = ains (insAll id lv P) (id * 1024 + x.1) x.2 := by unfold insAll; rw [List.foldl_append]; rfl
end Ev
set_option linter.unusedSimpArgs false
set_option linter.unusedVariables false
namespace Ev
open Go (IntKind)

def WP {α : Type} (x : Option α) (Q : α → Prop) : Prop := ∃ v, x = some v ∧ Q v
section
variable {α β : Type} {x : Option α} {f : α → Option β} {Q : β → Prop} {P : α → Prop}
theorem wp_some {Q : α → Prop} {v : α} (h : Q v) : WP (some v) Q := ⟨v, rfl, h⟩
theorem wp_bind (h : WP x fun v => WP (f v) Q) : WP (x.bind f) Q := by obtain ⟨v, rfl, h⟩ := h; exact h
theorem wp_seq (P : α → Prop) (h : WP x P) (k : ∀ v, P v → WP (f v) Q) : WP (x.bind f) Q := by obtain ⟨v, rfl, h⟩ := h; exact k v h
theorem wp_to {v : α} (h : x = some v) (k : WP (f v) Q) : WP (x.bind f) Q := by rw [h]; exact k
theorem wp_mono {Q' : α → Prop} (h : WP x P) (k : ∀ v, P v → Q' v) : WP x Q' := by obtain ⟨v, h1, h2⟩ := h; exact ⟨v, h1, k v h2⟩
theorem wp_of {v : α} (h : x = some v) (k : P v) : WP x P := ⟨v, h, k⟩
theorem wp_t {c : Bool} {a b : Option α} (h : c = true) (k : WP a P) : WP (cond c a b) P := by rw [h]; exact k
theorem wp_f {c : Bool} {a b : Option α} (h : c = false) (k : WP b P) : WP (cond c a b) P := by rw [h]; exact k
theorem wp_c {c : Bool} {a b : Option α} (h : c = true → WP a P) (k : c = false → WP b P) : WP (cond c a b) P := by
  cases c with
  | true => exact h rfl
  | false => exact k rfl
/-- Either way. -/
theorem wp_if {c : Bool} {p : Prop} [Decidable p] {a b : Option α} (e : c = decide p) (h : p → WP a P) (k : ¬ p → WP b P) : WP (cond c a b) P := by
  rw [e]
  by_cases hp : p
  · rw [decide_eq_true hp]; exact h hp
  · rw [decide_eq_false hp]; exact k hp
theorem wp_get {Q : α → Prop} (h : WP x Q) : ∃ v, x = some v ∧ Q v := h
end
section
variable {S X : Type} {step : S → Heap → Option ((S ⊕ X) × Heap)}
theorem wp_rise (n : Nat) (I : Nat → S → Heap → Prop) (P : X → Heap → Prop) (hs : ∀ i y G, i < n → I i y G → WP (step y G) fun r => Sum.elim (fun y' => I (i + 1) y' r.2) (fun x => P x r.2) r.1)
    (he : ∀ y G, I n y G → WP (step y G) fun r => Sum.elim (fun _ => False) (fun x => P x r.2) r.1) {y : S} {H : Heap} (h0 : I 0 y H) : WP (loopW step y H) fun r => P r.1 r.2 := by
  obtain ⟨x, G, g1, g2⟩ := loop_rise (step := step) n I P (fun i y G hi hI => by
      obtain ⟨⟨r, G'⟩, e1, e2⟩ := hs i y G hi hI
      cases r with
      | inl y' => exact .inl ⟨y', G', e1, e2⟩
      | inr x => exact .inr ⟨x, G', e1, e2⟩)
    (fun y G hI => by
      obtain ⟨⟨r, G'⟩, e1, e2⟩ := he y G hI
      cases r with
      | inl y' => exact e2.elim
      | inr x => exact ⟨x, G', e1, e2⟩) h0
  exact ⟨(x, G), g1, g2⟩
end
section
variable {H : Heap} {s0 : Sl} {es : Nat} {G : Heap} {s : Sl} {cs : List C}
/-- A row that was just laid is put behind a slice. -/
theorem wp_app {β : Type} {f : Sl × Heap → Option β} {Q : β → Prop} (hE : Em H s0 es G s cs) {new : List C} (hnew : es = new.length) (hes : 0 < es) {bytes : Nat} (hb : (s.len + 1) * bytes ≤ 35184372088832 ∧ s.len + 1 ≤ 35184372088832)
    (k : ∀ s' G', Em H s0 es G' s' (cs ++ new) → s'.len = s.len + 1 → WP (f (s', G')) Q) :
    WP ((slRow (G ++ [.cells new .exact]) es ⟨some (G.length, 0), 1, 1⟩).bind fun c => (appS (G ++ [.cells new .exact]) es bytes s 1 c).bind f) Q := by
  obtain ⟨s', G', e1, e2, e3, _⟩ := (hE.push [.cells new .exact]).app hes hnew.symm hb.1 hb.2
  have h1 : slRow (G ++ [.cells new .exact]) es ⟨some (G.length, 0), 1, 1⟩ = some new := by
    rw [slRow_t0]; exact sl_c0 [] new .exact hnew
  exact wp_to h1 (wp_to e1 (k s' G' e2 e3))
/-- The same; other blocks stay. -/
theorem wp_appk {β : Type} {f : Sl × Heap → Option β} {Q : β → Prop} (hE : Em H s0 es G s cs) {new : List C} (hnew : es = new.length) (hes : 0 < es) {bytes : Nat} (hb : (s.len + 1) * bytes ≤ 35184372088832 ∧ s.len + 1 ≤ 35184372088832)
    (k : ∀ s' G', Em H s0 es G' s' (cs ++ new) → s'.len = s.len + 1 → (∀ b x, G[b]? = some x → (∀ o, s.p ≠ some (b, o)) → G'[b]? = some x) → (∀ b o, s'.p = some (b, o) → G.length < b) → WP (f (s', G')) Q) :
    WP ((slRow (G ++ [.cells new .exact]) es ⟨some (G.length, 0), 1, 1⟩).bind fun c => (appS (G ++ [.cells new .exact]) es bytes s 1 c).bind f) Q := by
  obtain ⟨s', G', e1, e2, e3, e4, e5⟩ := (hE.push [.cells new .exact]).app hes hnew.symm hb.1 hb.2
  have h1 : slRow (G ++ [.cells new .exact]) es ⟨some (G.length, 0), 1, 1⟩ = some new := by
    rw [slRow_t0]; exact sl_c0 [] new .exact hnew
  refine wp_to h1 (wp_to e1 (k s' G' e2 e3 (fun b x hx ho => ?_) fun b o hp => ?_))
  · exact e4.get (by rw [List.getElem?_append_left (get_lt hx)]; exact hx) fun ⟨o, hp⟩ => ho o hp
  · have := e5 _ hp
    simp only [List.length_append, List.length_cons, List.length_nil] at this
    omega
end
end Ev
set_option linter.unusedSimpArgs false
set_option linter.unusedVariables false
namespace Ev
open Go (IntKind)

section
variable {H G : Heap} {v v' : RfV} {st st' : Sta}
/-- The end of a method: one slice is put into the box of the state, and that is told. -/
theorem wp_fin {b1 b2 j : Nat} {c : C} {cs : List C} (h1 : G[b1]? = some (.cells (vC v) .exact)) (h2 : G[b2]? = some (.cells cs .exact)) (hl : cs.length = 4) (hne : b1 ≠ b2) (hj : j < 4) (hc : (vC v).set j c = vC v') {Q : (RfV × Unit) × Heap → Prop}
    (k : Q ((v', ()), (G.set b1 (.cells (vC v') .exact)).set b2 (.cells (vC v') .exact))) :
    WP ((wr G b1 j [c]).bind fun (H39 : Heap) => Option.bind (α := RfV) (rd H39 (.agg [.sl 3, .sl 3, .sl 1, .sl 2]) b1 0) fun v40 => (wr H39 b2 0 [.sl 3 v40.1, .sl 3 v40.2.1, .sl 1 v40.2.2.1, .sl 2 v40.2.2.2.1]).bind fun (H41 : Heap) =>
        Option.bind (α := RfV) (rd H41 (.agg [.sl 3, .sl 3, .sl 1, .sl 2]) b2 0) fun v42 => some ((v42, ()), H41)) Q := by
  obtain ⟨f1, f2, f3⟩ := fin4 (G := G) (get_lt h1) h2 hl hne v'
  have hw : wr G b1 j [c] = some (G.set b1 (.cells (vC v') .exact)) := by rw [wr1_of h1 (by decide) (by simp [vC]; omega), hc]
  exact wp_to hw (wp_to f1 (wp_to f2 (wp_to f3 (wp_some k))))
theorem rd3_of {cts : List CT} {b : Nat} {x : Tup cts} (h : G[b]? = some (.cells (Tup.mk cts x) .exact)) (hl : (Tup.mk cts x).length = cts.length) : rd G (.agg cts) b 0 = some x :=
  rd_agg_of h (by omega) (by rw [List.drop_zero, ← hl, List.take_length]; exact tup_un_of _ _)
theorem made_step (h : RfAt H v st) {id q : Int} {b : Bool} {H1 : Heap} (hH1 : H1.length = H.length + 1) {t : Heap} (ht : t[0]? = some (.cells (vC v) .exact)) (ht1 : t[1]? = some (.cells [.int .i64 id, .int .i64 q, .bool b] .exact)) {s0 : Sl} (hs0 : ∀ a, s0.p = some a → H.length + 1 < a.1)
    {i : Nat} (hi : i < st.sp.length) {s : Sl} (hE : Em (H ++ t) s0 3 G s (rowsOf ctP ((outS id (q, b) (st.sp.take i)).map rsp))) (hn : s.len = (outS id (q, b) (st.sp.take i)).length) :
    WP (ref08_State_made.s1 H H1 (s, putS id (st.sp.take i), (i : Int), ()) G) fun r => Sum.elim (fun y => ∃ s', y = (s', putS id (st.sp.take (i + 1)), ((i + 1 : Nat) : Int), ()) ∧
      Em (H ++ t) s0 3 r.2 s' (rowsOf ctP ((outS id (q, b) (st.sp.take (i + 1))).map rsp)) ∧ s'.len = (outS id (q, b) (st.sp.take (i + 1))).length) (fun _ => False) r.1 := by
  have see : ∀ {G : Heap} {s : Sl} {cs : List C}, Em (H ++ t) s0 3 G s cs → rdSl 3 G H.length 0 = some v.1 ∧ (∃ b0 o0, Sl.at 3 v.1 (i : Int) = some (b0, o0) ∧ rdI .i64 G b0 o0 = some st.sp[i].1 ∧ rd G (.agg ctP) b0 o0 = some (rsp st.sp[i])) ∧ rd G (.agg ctP) (H.length + 1) 0 = some (id, q, b, ()) ∧ rdI .i64 G (H.length + 1) 0 = some id := fun {G s cs} hE => by
    obtain ⟨hG, hbox⟩ := h.box t ht (fun a ha => by have := hs0 a ha; omega) hE
    have hleaf : G[H.length + 1]? = some (.cells [.int .i64 id, .int .i64 q, .bool b] .exact) := hE.get (by rw [tl_get1]; exact ht1) fun o ho => by have := hs0 _ ho; simp only at this; omega
    have hlm : (st.sp.map rsp).length = st.sp.length := List.length_map _
    have hx : (st.sp.map rsp)[i]'(by omega) = rsp st.sp[i] := List.getElem_map _
    obtain ⟨b0, o0, r1, r2, _⟩ := Row.rd (cts := ctP) (rows := st.sp.map rsp) hG.sp (i := i) (by omega) (by decide)
    obtain ⟨b1, o1, r3, r4⟩ := row_int (cts := ctP) (rows := st.sp.map rsp) hG.sp (i := i) (by omega) (by decide) (j := 0) (n := st.sp[i].1) (by decide) (by rw [hx]; rfl)
    rw [r1] at r3
    cases r3
    rw [hx] at r2
    exact ⟨rdSl_of hbox rfl, ⟨b0, o0, r1, r4, r2⟩, rd3_of (cts := ctP) (x := (id, q, b, ())) hleaf rfl, rdI_of hleaf rfl⟩
  obtain ⟨hv, ⟨b0, o0, r1, r2, r3⟩, l1, l2⟩ := see hE
  have hsee : ∀ {G : Heap} {s : Sl} {cs : List C}, Em (H ++ t) s0 3 G s cs → rdSl 3 G H.length 0 = some v.1 ∧ rdI .i64 G b0 o0 = some st.sp[i].1 ∧ rd G (.agg ctP) b0 o0 = some (rsp st.sp[i]) ∧ rdI .i64 G (H.length + 1) 0 = some id := fun hE' => by
    obtain ⟨q1, ⟨b2, o2, q2, q3, q4⟩, _, q5⟩ := see hE'
    rw [r1] at q2
    cases q2
    exact ⟨q1, q3, q4, q5⟩
  clear see
  obtain ⟨x, hxx⟩ : ∃ x, x = st.sp[i] := ⟨_, rfl⟩
  rw [← hxx] at r2
  simp only [← hxx] at hsee
  have htk := take_snoc hi
  rw [← hxx] at htk
  have hfew := h.w.few
  obtain ⟨u1, u2⟩ := outS_snoc (k := id) (q, b) (l := st.sp.take i) (x := x) (by rw [← htk]; exact h.w.sp.sub (List.take_sublist _ _))
  have hol := outS_len (h.w.sp.sub (List.take_sublist i st.sp)) id (q, b)
  rw [List.length_take] at hol
  rw [htk, u1, u2]
  generalize outS id (q, b) (st.sp.take i) = out at hE hn hol ⊢
  generalize putS id (st.sp.take i) = put at ⊢
  have hw := wrap_succ (show i < 9223372036854775807 by omega)
  unfold ref08_State_made.s1
  refine wp_to hv (wp_t (decide_eq_true (by rw [h.spl]; exact Int.ofNat_lt.2 hi)) ?_)
  refine wp_seq (fun p => p.1.2.1 = (put || decide (id < x.1)) ∧ Em (H ++ t) s0 3 p.2 p.1.1 (rowsOf ctP ((out ++ if put = false ∧ id < x.1 then [(id, q, b)] else []).map rsp)) ∧ p.1.1.len = (out ++ if put = false ∧ id < x.1 then [(id, q, b)] else []).length) ?_ ?_
  · refine wp_seq (fun p => p = ((!put && decide (id < x.1), ()), G)) ?_ ?_
    · refine wp_c (fun e => ?_) (fun e => ?_)
      · rw [hH1]
        refine wp_to hv (wp_to r1 (wp_to r2 (wp_to l2 (wp_some ?_))))
        rw [show (!put) = true from e]; rfl
      · exact wp_some (by rw [show (!put) = false from e]; rfl)
    · rintro _ rfl
      refine wp_if (p := put = false ∧ id < x.1) (by cases put <;> simp) (fun e => ?_) (fun e => ?_)
      · rw [hH1]
        refine wp_to l1 ?_
        refine wp_app hE rfl (by decide) (by omega) fun s' G' hE' hn' => wp_some ⟨?_, ?_, ?_⟩
        · rw [e.1, decide_eq_true e.2]; rfl
        · rw [if_pos e, List.map_append, rowsOf_append']; exact hE'
        · rw [if_pos e, List.length_append, ← hn]; exact hn'
      · refine wp_some ⟨?_, ?_, ?_⟩
        · show put = _
          cases put with
          | true => rfl
          | false => rw [decide_eq_false (fun hh => e ⟨rfl, hh⟩)]; rfl
        · rw [if_neg e, List.append_nil]; exact hE
        · rw [if_neg e, List.append_nil]; exact hn
  · rintro ⟨⟨s1, put1, ⟨⟩⟩, G1⟩ ⟨rfl, hE1, hn1⟩
    have hE1 : Em (H ++ t) s0 3 G1 s1 (rowsOf ctP ((out ++ if put = false ∧ id < x.1 then [(id, q, b)] else []).map rsp)) := hE1
    have hn1 : s1.len = (out ++ if put = false ∧ id < x.1 then [(id, q, b)] else []).length := hn1
    obtain ⟨q1, q2, q3, q4⟩ := hsee hE1
    have hl1 : s1.len ≤ out.length + 1 := by rw [hn1, List.length_append]; split <;> simp
    rw [hH1]
    refine wp_to q1 (wp_to r1 (wp_to q2 (wp_to q4 ?_)))
    refine wp_if (p := ¬ x.1 = id) (by simp) (fun e => ?_) (fun e => ?_)
    · refine wp_to q1 (wp_to r1 (wp_to q3 ?_))
      refine wp_app hE1 rfl (by decide) (by omega) fun s' G' hE' hn' => wp_some ⟨s', ?_, ?_, ?_⟩
      · simp only [hw]
      · rw [if_neg e, List.map_append, rowsOf_append']; exact hE'
      · rw [if_neg e, List.length_append, ← hn1]; exact hn'
    · have e' : x.1 = id := by simpa using e
      refine wp_some ⟨s1, ?_, ?_, ?_⟩
      · simp only [hw]
      · rw [if_pos e', List.append_nil]; exact hE1
      · rw [if_pos e', List.append_nil]; exact hn1
theorem SaW.spi (w : SaW st) {id : Int} (hid : 1 ≤ id ∧ id ≤ 15) {q : Int} (hq : q ≤ 1024) (b : Bool) : SaW ⟨ains st.sp id (q, b), st.lv, st.bd, st.wn⟩ :=
  ⟨w.sp.ins _ _, w.lv, w.bd, w.wn, fun y hy => by
    show (afind (ains st.sp id (q, b)) (y.1 / 1024)).isSome = true
    rw [afind_ins w.sp]
    split
    · rfl
    · exact w.own y hy,
   fun y hy => (ains_mem hy).elim (fun e => by rw [e]; exact ⟨hid.1, hid.2, hq⟩) (w.ids y), w.bds, w.wns⟩
theorem rf_made (h : RfAt H v st) {id q : Int} (b : Bool) (hid : 1 ≤ id ∧ id ≤ 15) (hq : q ≤ 1024) : WP (ref08_State_made v (id, q, b, ()) H) fun r => RRes H v r.2 r.1.1 ⟨ains st.sp id (q, b), st.lv, st.bd, st.wn⟩ := by
  have hfew := h.w.few
  generalize ht : [Blk.cells [.sl 3 v.1, .sl 3 v.2.1, .sl 1 v.2.2.1, .sl 2 v.2.2.2.1] .exact, .cells [.int .i64 id, .int .i64 q, .bool b] .exact, .cells [.sl 3 Sl.nil, .sl 3 Sl.nil, .sl 1 Sl.nil, .sl 2 Sl.nil] .exact, .cells [] .exact] = t
  have ht0 : t[0]? = some (.cells (vC v) .exact) := by rw [← ht]; rfl
  have ht1 : t[1]? = some (.cells [.int .i64 id, .int .i64 q, .bool b] .exact) := by rw [← ht]; rfl
  have ht2 : t[2]? = some (.cells [.sl 3 Sl.nil, .sl 3 Sl.nil, .sl 1 Sl.nil, .sl 2 Sl.nil] .exact) := by rw [← ht]; rfl
  have ht3 : t[3]? = some (.cells [] .exact) := by rw [← ht]; rfl
  have htl : t.length = 4 := by rw [← ht]; rfl
  have hs0 : ∀ a, (⟨some (H.length + 3, 0), 0, 0⟩ : Sl).p = some a → H.length + 2 < a.1 := fun a ha => by cases ha; simp only; omega
  have h0 : Em (H ++ t) ⟨some (H.length + 3, 0), 0, 0⟩ 3 (H ++ t) ⟨some (H.length + 3, 0), 0, 0⟩ [] := Em.start ⟨rfl, rfl, fun hh => (by cases hh), fun a ha => by cases ha; exact ⟨rfl, .inr (by rw [tl_get1]; exact ht3)⟩⟩
  have done : ∀ sF GF, Em (H ++ t) ⟨some (H.length + 3, 0), 0, 0⟩ 3 GF sF (rowsOf ctP ((ains st.sp id (q, b)).map rsp)) → sF.len = (ains st.sp id (q, b)).length →
      WP ((wr GF H.length 0 [.sl 3 sF]).bind fun (H39 : Heap) => Option.bind (α := RfV) (rd H39 (.agg [.sl 3, .sl 3, .sl 1, .sl 2]) H.length 0) fun v40 => (wr H39 (H.length + 2) 0 [.sl 3 v40.1, .sl 3 v40.2.1, .sl 1 v40.2.2.1, .sl 2 v40.2.2.2.1]).bind fun (H41 : Heap) =>
        Option.bind (α := RfV) (rd H41 (.agg [.sl 3, .sl 3, .sl 1, .sl 2]) (H.length + 2) 0) fun v42 => some ((v42, ()), H41)) fun r => RRes H v r.2 r.1.1 ⟨ains st.sp id (q, b), st.lv, st.bd, st.wn⟩ := fun sF GF hE hl => by
    obtain ⟨hG, hbox⟩ := h.box t ht0 (fun a ha => by have := hs0 a ha; omega) hE
    have hres : GF[H.length + 2]? = some (.cells [.sl 3 Sl.nil, .sl 3 Sl.nil, .sl 1 Sl.nil, .sl 2 Sl.nil] .exact) := hE.get (by rw [tl_get1]; exact ht2) fun o ho => by have := hs0 _ ho; simp only at this; omega
    refine wp_fin (v' := (sF, v.2.1, v.2.2.1, v.2.2.2.1, ())) hbox hres rfl (by omega) (by decide) rfl ?_
    refine rf_done (v' := (sF, v.2.1, v.2.2.1, v.2.2.2.1, ())) h (by omega) (by omega) hs0 hE ⟨h.w.spi hid hq b, Row.grown hE.g, hG.lv, hG.bd, hG.wn, hl, hG.lvl, hG.bdl, hG.wnl⟩ (fun b hb => ?_) _ _
    rcases hb with hb | hb | hb | hb
    · exact .inr hb
    · exact .inl (.inr (.inl hb))
    · exact .inl (.inr (.inr (.inl hb)))
    · exact .inl (.inr (.inr (.inr hb)))
  have hall := outS_all h.w.sp id (q, b)
  unfold ref08_State_made
  simp only [List.append_assoc, List.cons_append, List.nil_append, List.length_append, List.length_cons, List.length_nil, Nat.zero_add]
  rw [ht]
  refine wp_seq _ (wp_rise st.sp.length (fun i y G => ∃ s, y = (s, putS id (st.sp.take i), (i : Int), ()) ∧ Em (H ++ t) ⟨some (H.length + 3, 0), 0, 0⟩ 3 G s (rowsOf ctP ((outS id (q, b) (st.sp.take i)).map rsp)) ∧ s.len = (outS id (q, b) (st.sp.take i)).length)
    (fun x G => ∃ s, x = (s, putS id st.sp, ()) ∧ Em (H ++ t) ⟨some (H.length + 3, 0), 0, 0⟩ 3 G s (rowsOf ctP ((outS id (q, b) st.sp).map rsp)) ∧ s.len = (outS id (q, b) st.sp).length) ?_ ?_ ?_) ?_
  · rintro i y G hi ⟨s, rfl, hE, hn⟩
    exact wp_mono (made_step h (by simp) ht0 ht1 (fun a ha => by have := hs0 a ha; omega) hi hE hn) fun r hr => by
      obtain ⟨r, G'⟩ := r
      cases r with
      | inl y => exact hr
      | inr x => exact hr.elim
  · rintro y G ⟨s, rfl, hE, hn⟩
    rw [List.take_length] at hE hn ⊢
    obtain ⟨_, hbox⟩ := h.box t ht0 (fun a ha => by have := hs0 a ha; omega) hE
    have hv : rdSl 3 G H.length 0 = some v.1 := rdSl_of hbox rfl
    unfold ref08_State_made.s1
    exact wp_to hv (wp_f (decide_eq_false (by rw [h.spl]; exact Int.lt_irrefl _)) (wp_some ⟨s, rfl, hE, hn⟩))
  · exact ⟨_, rfl, h0, rfl⟩
  · rintro ⟨⟨s, pt, ⟨⟩⟩, G⟩ ⟨s', hs, hE, hn⟩
    cases hs
    refine wp_c (fun e => ?_) (fun e => ?_)
    · have e : putS id st.sp = false := by simpa using e
      rw [if_pos e] at hall
      have hleaf : G[H.length + 1]? = some (.cells [.int .i64 id, .int .i64 q, .bool b] .exact) := hE.get (by rw [tl_get1]; exact ht1) fun o ho => by have := hs0 _ ho; simp only at this; omega
      have hol := outS_len h.w.sp id (q, b)
      have l2 : rd G (.agg ctP) (H.length + 1) 0 = some (id, q, b, ()) := rd3_of (cts := ctP) (x := (id, q, b, ())) hleaf rfl
      refine wp_to l2 ?_
      refine wp_app hE rfl (by decide) (by omega) fun s' G' hE' hn' => done s' G' ?_ ?_
      · rw [← hall, List.map_append, rowsOf_append']; exact hE'
      · rw [← hall, List.length_append, ← hn]; exact hn'
    · have e : ¬ putS id st.sp = false := by simpa using e
      rw [if_neg e, List.append_nil] at hall
      rw [hall] at hE hn
      exact done s G hE hn
end
end Ev
set_option linter.unusedSimpArgs false
set_option linter.unusedVariables false
namespace Ev
open Go (IntKind)

theorem intC_append (l l' : List Int) : intC (l ++ l') = intC l ++ intC l' := by simp [intC]
theorem SaW.fewb {st : Sta} (w : SaW st) : st.bd.length ≤ 32 := asc_bound (a := 0) w.bd fun x hx => by have := w.bds x hx; omega
theorem SaW.feww {st : Sta} (w : SaW st) : st.wn.length ≤ 32 := asc_bound (a := 0) w.wn fun x hx => by have := w.wns x hx; omega
section
variable {H G : Heap} {v v' : RfV} {st st' : Sta}
theorem bad_step (h : RfAt H v st) {k : Int} {t : Heap} (ht : t[0]? = some (.cells (vC v) .exact)) {s0 : Sl} (hs0 : ∀ a, s0.p = some a → H.length < a.1)
    {i : Nat} (hi : i < st.bd.length) {s : Sl} (hE : Em (H ++ t) s0 1 G s (intC ((outI k () (st.bd.take i)).map Prod.fst))) (hn : s.len = (outI k () (st.bd.take i)).length) :
    WP (ref08_State_bad.s1 k H (s, putI k (st.bd.take i), (i : Int), ()) G) fun r => Sum.elim (fun y => ∃ s', y = (s', putI k (st.bd.take (i + 1)), ((i + 1 : Nat) : Int), ()) ∧
      Em (H ++ t) s0 1 r.2 s' (intC ((outI k () (st.bd.take (i + 1))).map Prod.fst)) ∧ s'.len = (outI k () (st.bd.take (i + 1))).length) (fun _ => False) r.1 := by
  have hll : (st.bd.map Prod.fst).length = st.bd.length := List.length_map _
  have hx : (st.bd.map Prod.fst)[i]'(by omega) = st.bd[i].1 := List.getElem_map _
  have see : ∀ {G : Heap} {s : Sl} {cs : List C}, Em (H ++ t) s0 1 G s cs → rdSl 1 G H.length 2 = some v.2.2.1 ∧ (∃ b0 o0, Sl.at 1 v.2.2.1 (i : Int) = some (b0, o0) ∧ rdI .i64 G b0 o0 = some st.bd[i].1) := fun {G s cs} hE => by
    obtain ⟨hG, hbox⟩ := h.box t ht hs0 hE
    obtain ⟨b0, o0, _, r1, r2⟩ := hG.bd.int (i := i) (by omega)
    rw [hx] at r2
    exact ⟨rdSl_of hbox rfl, b0, o0 + i, r1, r2⟩
  obtain ⟨hv, b0, o0, r1, r2⟩ := see hE
  have hsee : ∀ {G : Heap} {s : Sl} {cs : List C}, Em (H ++ t) s0 1 G s cs → rdSl 1 G H.length 2 = some v.2.2.1 ∧ rdI .i64 G b0 o0 = some st.bd[i].1 := fun hE' => by
    obtain ⟨q1, b2, o2, q2, q3⟩ := see hE'
    rw [r1] at q2
    cases q2
    exact ⟨q1, q3⟩
  clear see
  obtain ⟨x, hxx⟩ : ∃ x, x = st.bd[i] := ⟨_, rfl⟩
  rw [← hxx] at r2
  simp only [← hxx] at hsee
  have htk := take_snoc hi
  rw [← hxx] at htk
  have hfew := h.w.fewb
  obtain ⟨u1, u2⟩ := outI_snoc (k := k) () (l := st.bd.take i) (x := x) (by rw [← htk]; exact h.w.bd.sub (List.take_sublist _ _))
  have hol := outI_len (h.w.bd.sub (List.take_sublist i st.bd)) k ()
  rw [List.length_take] at hol
  rw [htk, u1, u2]
  generalize outI k () (st.bd.take i) = out at hE hn hol ⊢
  generalize putI k (st.bd.take i) = put at ⊢
  have hw := wrap_succ (show i < 9223372036854775807 by omega)
  unfold ref08_State_bad.s1
  refine wp_to hv (wp_t (decide_eq_true (by rw [h.bdl]; exact Int.ofNat_lt.2 hi)) ?_)
  refine wp_seq (fun p => p.1.2.1 = (put || decide (k ≤ x.1)) ∧ Em (H ++ t) s0 1 p.2 p.1.1 (intC ((out ++ if put = false ∧ k ≤ x.1 then [(k, ())] else []).map Prod.fst)) ∧ p.1.1.len = (out ++ if put = false ∧ k ≤ x.1 then [(k, ())] else []).length) ?_ ?_
  · refine wp_seq (fun p => p = ((!put && decide (k ≤ x.1), ()), G)) ?_ ?_
    · refine wp_c (fun e => ?_) (fun e => ?_)
      · refine wp_to hv (wp_to r1 (wp_to r2 (wp_some ?_)))
        rw [show (!put) = true from e]; rfl
      · exact wp_some (by rw [show (!put) = false from e]; rfl)
    · rintro _ rfl
      refine wp_if (p := put = false ∧ k ≤ x.1) (by cases put <;> simp) (fun e => ?_) (fun e => ?_)
      · refine wp_app hE rfl (by decide) (by omega) fun s' G' hE' hn' => wp_some ⟨?_, ?_, ?_⟩
        · rw [e.1, decide_eq_true e.2]; rfl
        · rw [if_pos e, List.map_append, intC_append]; exact hE'
        · rw [if_pos e, List.length_append, ← hn]; exact hn'
      · refine wp_some ⟨?_, ?_, ?_⟩
        · show put = _
          cases put with
          | true => rfl
          | false => rw [decide_eq_false (fun hh => e ⟨rfl, hh⟩)]; rfl
        · rw [if_neg e, List.append_nil]; exact hE
        · rw [if_neg e, List.append_nil]; exact hn
  · rintro ⟨⟨s1, put1, ⟨⟩⟩, G1⟩ ⟨rfl, hE1, hn1⟩
    have hE1 : Em (H ++ t) s0 1 G1 s1 (intC ((out ++ if put = false ∧ k ≤ x.1 then [(k, ())] else []).map Prod.fst)) := hE1
    have hn1 : s1.len = (out ++ if put = false ∧ k ≤ x.1 then [(k, ())] else []).length := hn1
    obtain ⟨q1, q2⟩ := hsee hE1
    have hl1 : s1.len ≤ out.length + 1 := by rw [hn1, List.length_append]; split <;> simp
    refine wp_to q1 (wp_to r1 (wp_to q2 ?_))
    refine wp_if (p := ¬ x.1 = k) (by simp) (fun e => ?_) (fun e => ?_)
    · refine wp_to q1 (wp_to r1 (wp_to q2 ?_))
      refine wp_app hE1 rfl (by decide) (by omega) fun s' G' hE' hn' => wp_some ⟨s', ?_, ?_, ?_⟩
      · simp only [hw]
      · rw [if_neg e, List.map_append, intC_append]; exact hE'
      · rw [if_neg e, List.length_append, ← hn1]; exact hn'
    · have e' : x.1 = k := by simpa using e
      refine wp_some ⟨s1, ?_, ?_, ?_⟩
      · simp only [hw]
      · rw [if_pos e', List.append_nil]; exact hE1
      · rw [if_pos e', List.append_nil]; exact hn1
theorem rf_bad (h : RfAt H v st) {k : Int} (hk : 0 ≤ k ∧ k ≤ 31) : WP (ref08_State_bad v k H) fun r => RRes H v r.2 r.1.1 ⟨st.sp, st.lv, ains st.bd k (), st.wn⟩ := by
  have hfew := h.w.fewb
  generalize ht : [Blk.cells [.sl 3 v.1, .sl 3 v.2.1, .sl 1 v.2.2.1, .sl 2 v.2.2.2.1] .exact, .cells [.sl 3 Sl.nil, .sl 3 Sl.nil, .sl 1 Sl.nil, .sl 2 Sl.nil] .exact, .cells [] .exact] = t
  have ht0 : t[0]? = some (.cells (vC v) .exact) := by rw [← ht]; rfl
  have ht2 : t[1]? = some (.cells [.sl 3 Sl.nil, .sl 3 Sl.nil, .sl 1 Sl.nil, .sl 2 Sl.nil] .exact) := by rw [← ht]; rfl
  have ht3 : t[2]? = some (.cells [] .exact) := by rw [← ht]; rfl
  have htl : t.length = 3 := by rw [← ht]; rfl
  have hs0 : ∀ a, (⟨some (H.length + 2, 0), 0, 0⟩ : Sl).p = some a → H.length + 1 < a.1 := fun a ha => by cases ha; simp only; omega
  have h0 : Em (H ++ t) ⟨some (H.length + 2, 0), 0, 0⟩ 1 (H ++ t) ⟨some (H.length + 2, 0), 0, 0⟩ [] := Em.start ⟨rfl, rfl, fun hh => (by cases hh), fun a ha => by cases ha; exact ⟨rfl, .inr (by rw [tl_get1]; exact ht3)⟩⟩
  have done : ∀ sF GF, Em (H ++ t) ⟨some (H.length + 2, 0), 0, 0⟩ 1 GF sF (intC ((ains st.bd k ()).map Prod.fst)) → sF.len = (ains st.bd k ()).length →
      WP ((wr GF H.length 2 [.sl 1 sF]).bind fun (H39 : Heap) => Option.bind (α := RfV) (rd H39 (.agg [.sl 3, .sl 3, .sl 1, .sl 2]) H.length 0) fun v40 => (wr H39 (H.length + 1) 0 [.sl 3 v40.1, .sl 3 v40.2.1, .sl 1 v40.2.2.1, .sl 2 v40.2.2.2.1]).bind fun (H41 : Heap) =>
        Option.bind (α := RfV) (rd H41 (.agg [.sl 3, .sl 3, .sl 1, .sl 2]) (H.length + 1) 0) fun v42 => some ((v42, ()), H41)) fun r => RRes H v r.2 r.1.1 ⟨st.sp, st.lv, ains st.bd k (), st.wn⟩ := fun sF GF hE hl => by
    obtain ⟨hG, hbox⟩ := h.box t ht0 (fun a ha => by have := hs0 a ha; omega) hE
    have hres : GF[H.length + 1]? = some (.cells [.sl 3 Sl.nil, .sl 3 Sl.nil, .sl 1 Sl.nil, .sl 2 Sl.nil] .exact) := hE.get (by rw [tl_get1]; exact ht2) fun o ho => by have := hs0 _ ho; simp only at this; omega
    refine wp_fin (v' := (v.1, v.2.1, sF, v.2.2.2.1, ())) hbox hres rfl (by omega) (by decide) rfl ?_
    refine rf_done (v' := (v.1, v.2.1, sF, v.2.2.2.1, ())) h (by omega) (by omega) hs0 hE ⟨h.w.bd' hk, hG.sp, hG.lv, Row.grown hE.g, hG.wn, hG.spl, hG.lvl, hl, hG.wnl⟩ (fun b hb => ?_) _ _
    rcases hb with hb | hb | hb | hb
    · exact .inl (.inl hb)
    · exact .inl (.inr (.inl hb))
    · exact .inr hb
    · exact .inl (.inr (.inr (.inr hb)))
  have hall := outI_all k () st.bd
  unfold ref08_State_bad
  simp only [List.append_assoc, List.cons_append, List.nil_append, List.length_append, List.length_cons, List.length_nil, Nat.zero_add]
  rw [ht]
  refine wp_seq _ (wp_rise st.bd.length (fun i y G => ∃ s, y = (s, putI k (st.bd.take i), (i : Int), ()) ∧ Em (H ++ t) ⟨some (H.length + 2, 0), 0, 0⟩ 1 G s (intC ((outI k () (st.bd.take i)).map Prod.fst)) ∧ s.len = (outI k () (st.bd.take i)).length)
    (fun x G => ∃ s, x = (s, putI k st.bd, ()) ∧ Em (H ++ t) ⟨some (H.length + 2, 0), 0, 0⟩ 1 G s (intC ((outI k () st.bd).map Prod.fst)) ∧ s.len = (outI k () st.bd).length) ?_ ?_ ?_) ?_
  · rintro i y G hi ⟨s, rfl, hE, hn⟩
    exact wp_mono (bad_step h ht0 (fun a ha => by have := hs0 a ha; omega) hi hE hn) fun r hr => by
      obtain ⟨r, G'⟩ := r
      cases r with
      | inl y => exact hr
      | inr x => exact hr.elim
  · rintro y G ⟨s, rfl, hE, hn⟩
    rw [List.take_length] at hE hn ⊢
    obtain ⟨_, hbox⟩ := h.box t ht0 (fun a ha => by have := hs0 a ha; omega) hE
    have hv : rdSl 1 G H.length 2 = some v.2.2.1 := rdSl_of hbox rfl
    unfold ref08_State_bad.s1
    exact wp_to hv (wp_f (decide_eq_false (by rw [h.bdl]; exact Int.lt_irrefl _)) (wp_some ⟨s, rfl, hE, hn⟩))
  · exact ⟨_, rfl, h0, rfl⟩
  · rintro ⟨⟨s, pt, ⟨⟩⟩, G⟩ ⟨s', hs, hE, hn⟩
    cases hs
    refine wp_c (fun e => ?_) (fun e => ?_)
    · have e : putI k st.bd = false := by simpa using e
      rw [if_pos e] at hall
      have hol := outI_len h.w.bd k ()
      refine wp_app hE rfl (by decide) (by omega) fun s' G' hE' hn' => done s' G' ?_ ?_
      · rw [← hall, List.map_append, intC_append]; exact hE'
      · rw [← hall, List.length_append, ← hn]; exact hn'
    · have e : ¬ putI k st.bd = false := by simpa using e
      rw [if_neg e, List.append_nil] at hall
      rw [hall] at hE hn
      exact done s G hE hn
end
end Ev
set_option linter.unusedSimpArgs false
set_option linter.unusedVariables false
namespace Ev
open Go (IntKind)

section
variable {H G : Heap} {v v' : RfV} {st st' : Sta}
def WornI (st : Sta) (K : Heap) (s0 : Sl) (k n : Int) (i : Nat) (y : Sl × Bool × Int × Unit) (G : Heap) : Prop :=
  ∃ s, y = (s, putI k (st.wn.take i), (i : Int), ()) ∧ Em K s0 2 G s (rowsOf ctW ((outI k n (st.wn.take i)).map rwn)) ∧ s.len = (outI k n (st.wn.take i)).length ∧ ∀ j (hj : j < st.wn.length), j < i → ¬ (st.wn[j].1 = k ∧ n < st.wn[j].2)
theorem arr0 (b : Nat) : arrAt 1 2 (b, 0) 0 = some (b, 0) := rfl
theorem arr1 (b : Nat) : arrAt 1 2 (b, 0) 1 = some (b, 1) := rfl
theorem worn_step (h : RfAt H v st) {k n : Int} {H1 : Heap} (hH1 : H1.length = H.length + 1) {t : Heap} (ht : t[0]? = some (.cells (vC v) .exact)) (ht1 : t[1]? = some (.cells [.sl 3 Sl.nil, .sl 3 Sl.nil, .sl 1 Sl.nil, .sl 2 Sl.nil] .exact)) {s0 : Sl} (hs0 : ∀ a, s0.p = some a → H.length + 1 < a.1)
    {i : Nat} (hi : i < st.wn.length) {y : Sl × Bool × Int × Unit} (hI : WornI st (H ++ t) s0 k n i y G) :
    WP (ref08_State_worn.s1 k n H H1 y G) fun r => Sum.elim (fun y => WornI st (H ++ t) s0 k n (i + 1) y r.2)
      (fun x => x = .inr () ∧ (st.wn[i].1 = k ∧ n < st.wn[i].2) ∧ RRes H v r.2 v st ∧ r.2[H.length + 1]? = some (.cells (vC v) .exact)) r.1 := by
  obtain ⟨s, rfl, hE, hn, hno⟩ := hI
  have hlm : (st.wn.map rwn).length = st.wn.length := List.length_map _
  have hx : (st.wn.map rwn)[i]'(by omega) = rwn st.wn[i] := List.getElem_map _
  obtain ⟨hG, hbox⟩ := h.box t ht (fun a ha => by have := hs0 a ha; omega) hE
  have hres : G[H.length + 1]? = some (.cells [.sl 3 Sl.nil, .sl 3 Sl.nil, .sl 1 Sl.nil, .sl 2 Sl.nil] .exact) := hE.get (by rw [tl_get1]; exact ht1) fun o ho => by have := hs0 _ ho; simp only at this; omega
  have hv : rdSl 2 G H.length 3 = some v.2.2.2.1 := rdSl_of hbox rfl
  obtain ⟨b0, o0, r1, r2, _⟩ := Row.rd (cts := ctW) (rows := st.wn.map rwn) hG.wn (i := i) (by omega) (by decide)
  rw [hx] at r2
  obtain ⟨x, hxx⟩ : ∃ x, x = st.wn[i] := ⟨_, rfl⟩
  rw [← hxx] at r2 ⊢
  have r2 : rd G (.agg [.int .i64, .int .i64]) b0 o0 = (some (x.1, x.2, ()) : Option (Int × Int × Unit)) := r2
  have htk := take_snoc hi
  rw [← hxx] at htk
  have hfew := h.w.feww
  obtain ⟨u1, u2⟩ := outI_snoc (k := k) n (l := st.wn.take i) (x := x) (by rw [← htk]; exact h.w.wn.sub (List.take_sublist _ _))
  have hol := outI_len (h.w.wn.sub (List.take_sublist i st.wn)) k n
  rw [List.length_take] at hol
  have hE0 := hE.push [.cells [.int .i64 x.1, .int .i64 x.2] .exact]
  have hgl : G.length = (G ++ [Blk.cells [.int .i64 x.1, .int .i64 x.2] .exact]).length - 1 := by simp
  have t0 : (G ++ [Blk.cells [.int .i64 x.1, .int .i64 x.2] .exact])[G.length]? = some (.cells [.int .i64 x.1, .int .i64 x.2] .exact) := by rw [tl_get0]; rfl
  have hw0 : wr (G ++ [Blk.cells [.int .i64 0, .int .i64 0] .exact]) G.length 0 [.int .i64 x.1, .int .i64 x.2] = some (G ++ [Blk.cells [.int .i64 x.1, .int .i64 x.2] .exact]) := by
    rw [wr_t0, wr_c0 _ _ _ _ (by simp)]; rfl
  have hsl : ∀ o, s.p ≠ some (G.length, o) := fun o hp => by have := hE.g.lt hp; simp only at this; omega
  have hw := wrap_succ (show i < 9223372036854775807 by omega)
  unfold ref08_State_worn.s1
  refine wp_to hv (wp_t (decide_eq_true (by rw [h.wnl]; exact Int.ofNat_lt.2 hi)) ?_)
  refine wp_to hv (wp_to r1 (wp_to r2 (wp_to hw0 ?_)))
  by_cases he : x.1 = k ∧ n < x.2
  · have hbox2 : (G ++ [Blk.cells [.int .i64 x.1, .int .i64 x.2] .exact])[H.length]? = some (.cells (vC v) .exact) := by rw [List.getElem?_append_left (get_lt hbox)]; exact hbox
    have hres2 : (G ++ [Blk.cells [.int .i64 x.1, .int .i64 x.2] .exact])[H.length + 1]? = some (.cells [.sl 3 Sl.nil, .sl 3 Sl.nil, .sl 1 Sl.nil, .sl 2 Sl.nil] .exact) := by rw [List.getElem?_append_left (get_lt hres)]; exact hres
    have hr : rd (G ++ [Blk.cells [.int .i64 x.1, .int .i64 x.2] .exact]) (.agg [.sl 3, .sl 3, .sl 1, .sl 2]) H.length 0 = (some v : Option RfV) := rd_agg_of hbox2 (by simp [vC]) rfl
    have hwr : wr (G ++ [Blk.cells [.int .i64 x.1, .int .i64 x.2] .exact]) (H.length + 1) 0 [.sl 3 v.1, .sl 3 v.2.1, .sl 1 v.2.2.1, .sl 2 v.2.2.2.1] = some ((G ++ [Blk.cells [.int .i64 x.1, .int .i64 x.2] .exact]).set (H.length + 1) (.cells (vC v) .exact)) := by
      rw [wr_of hres2 (by decide) (by simp)]; rfl
    refine wp_seq (fun p => p = (.inr (), (G ++ [Blk.cells [.int .i64 x.1, .int .i64 x.2] .exact]).set (H.length + 1) (.cells (vC v) .exact))) ?_ ?_
    · refine wp_to (arr0 _) (wp_to (rdI_of t0 rfl) (wp_t (decide_eq_true he.1) (wp_to (arr1 _) (wp_to (rdI_of t0 rfl) (wp_t (decide_eq_true he.2) (wp_to hr ?_))))))
      rw [hH1]
      exact wp_to hwr (wp_some rfl)
    · rintro _ rfl
      have hkk : Keep (fun b => b = H.length + 1) (G ++ [Blk.cells [.int .i64 x.1, .int .i64 x.2] .exact]) ((G ++ [Blk.cells [.int .i64 x.1, .int .i64 x.2] .exact]).set (H.length + 1) (.cells (vC v) .exact)) := Keep.set _ _ _ rfl
      refine wp_some ⟨rfl, he, ⟨(hG.keep (Keep.app (fun _ => False) G _) fun _ _ hf => hf).keep hkk fun b hb e => ?_, ⟨?_, fun b hb _ => ?_⟩, fun b hb => .inl hb⟩, set_get (get_lt hres2)⟩
      · have := h.lt hb; omega
      · have := hE.k.len; simp only [List.length_set, List.length_append] at this ⊢; omega
      · simp only
        have hk := hE.k.len
        simp only [List.length_append] at hk
        rw [set_get' (by omega), List.getElem?_append_left (by omega), hE.k.same b (by simp only [List.length_append]; omega) fun ⟨o, ho⟩ => by have := hs0 _ ho; simp only at this; omega, List.getElem?_append_left hb]
  · refine wp_seq (fun p => p = (.inl (), G ++ [Blk.cells [.int .i64 x.1, .int .i64 x.2] .exact])) ?_ ?_
    · refine wp_to (arr0 _) (wp_to (rdI_of t0 rfl) ?_)
      refine wp_if (p := x.1 = k) rfl (fun e => ?_) (fun e => wp_some rfl)
      exact wp_to (arr1 _) (wp_to (rdI_of t0 rfl) (wp_f (decide_eq_false fun hh => he ⟨e, hh⟩) (wp_some rfl)))
    · rintro _ rfl
      have hno' : ∀ j (hj : j < st.wn.length), j < i + 1 → ¬ (st.wn[j].1 = k ∧ n < st.wn[j].2) := fun j hj hji => by
        by_cases e2 : j = i
        · subst e2; rw [← hxx]; exact he
        · exact hno j hj (by omega)
      unfold WornI
      rw [htk, u1, u2]
      generalize outI k n (st.wn.take i) = out at hE hn hol hE0 ⊢
      generalize putI k (st.wn.take i) = put at ⊢
      refine wp_seq (fun p => p.1.2.1 = (put || decide (k ≤ x.1)) ∧ Em (H ++ t) s0 2 p.2 p.1.1 (rowsOf ctW ((out ++ if put = false ∧ k ≤ x.1 then [(k, n)] else []).map rwn)) ∧ p.1.1.len = (out ++ if put = false ∧ k ≤ x.1 then [(k, n)] else []).length ∧ p.2[G.length]? = some (.cells [.int .i64 x.1, .int .i64 x.2] .exact)) ?_ ?_
      · refine wp_seq (fun p => p = ((!put && decide (k ≤ x.1), ()), G ++ [Blk.cells [.int .i64 x.1, .int .i64 x.2] .exact])) ?_ ?_
        · refine wp_c (fun e => ?_) (fun e => ?_)
          · refine wp_to (arr0 _) (wp_to (rdI_of t0 rfl) (wp_some ?_))
            rw [show (!put) = true from e]; rfl
          · exact wp_some (by rw [show (!put) = false from e]; rfl)
        · rintro _ rfl
          refine wp_if (p := put = false ∧ k ≤ x.1) (by cases put <;> simp) (fun e => ?_) (fun e => ?_)
          · refine wp_appk hE0 rfl (by decide) (by omega) fun s' G' hE' hn' hk' _ => wp_some ⟨?_, ?_, ?_, hk' _ _ t0 hsl⟩
            · rw [e.1, decide_eq_true e.2]; rfl
            · rw [if_pos e, List.map_append, rowsOf_append']; exact hE'
            · rw [if_pos e, List.length_append, ← hn]; exact hn'
          · refine wp_some ⟨?_, ?_, ?_, t0⟩
            · show put = _
              cases put with
              | true => rfl
              | false => rw [decide_eq_false (fun hh => e ⟨rfl, hh⟩)]; rfl
            · rw [if_neg e, List.append_nil]; exact hE0
            · rw [if_neg e, List.append_nil]; exact hn
      · rintro ⟨⟨s1, put1, ⟨⟩⟩, G1⟩ ⟨rfl, hE1, hn1, t1⟩
        have hE1 : Em (H ++ t) s0 2 G1 s1 (rowsOf ctW ((out ++ if put = false ∧ k ≤ x.1 then [(k, n)] else []).map rwn)) := hE1
        have hn1 : s1.len = (out ++ if put = false ∧ k ≤ x.1 then [(k, n)] else []).length := hn1
        have hl1 : s1.len ≤ out.length + 1 := by rw [hn1, List.length_append]; split <;> simp
        refine wp_to (arr0 _) (wp_to (rdI_of t1 rfl) ?_)
        refine wp_if (p := ¬ x.1 = k) (by simp) (fun e => ?_) (fun e => ?_)
        · refine wp_to (rd3_of (cts := ctW) (x := (x.1, x.2, ())) t1 rfl) ?_
          refine wp_app hE1 rfl (by decide) (by omega) fun s' G' hE' hn' => wp_some ⟨s', ?_, ?_, ?_, hno'⟩
          · simp only [hw]
          · rw [if_neg e, List.map_append, rowsOf_append']; exact hE'
          · rw [if_neg e, List.length_append, ← hn1]; exact hn'
        · have e' : x.1 = k := by simpa using e
          refine wp_some ⟨s1, ?_, ?_, ?_, hno'⟩
          · simp only [hw]
          · rw [if_pos e', List.append_nil]; exact hE1
          · rw [if_pos e', List.append_nil]; exact hn1
/-- What the count of a block becomes. -/
def wornS (wn : List (Int × Int)) (k n : Int) : List (Int × Int) := if (∃ x ∈ wn, x.1 = k ∧ n < x.2) then wn else ains wn k n
theorem rf_worn (h : RfAt H v st) {k n : Int} (hk : 0 ≤ k ∧ k ≤ 31) : WP (ref08_State_worn v k n H) fun r => ∃ wn, ((∀ x ∈ st.wn, ¬ (x.1 = k ∧ n < x.2)) → wn = ains st.wn k n) ∧ ((∃ x ∈ st.wn, x.1 = k ∧ n < x.2) → wn = st.wn) ∧ RRes H v r.2 r.1.1 ⟨st.sp, st.lv, st.bd, wn⟩ := by
  have hfew := h.w.feww
  generalize ht : [Blk.cells [.sl 3 v.1, .sl 3 v.2.1, .sl 1 v.2.2.1, .sl 2 v.2.2.2.1] .exact, .cells [.sl 3 Sl.nil, .sl 3 Sl.nil, .sl 1 Sl.nil, .sl 2 Sl.nil] .exact, .cells [] .exact] = t
  have ht0 : t[0]? = some (.cells (vC v) .exact) := by rw [← ht]; rfl
  have ht2 : t[1]? = some (.cells [.sl 3 Sl.nil, .sl 3 Sl.nil, .sl 1 Sl.nil, .sl 2 Sl.nil] .exact) := by rw [← ht]; rfl
  have ht3 : t[2]? = some (.cells [] .exact) := by rw [← ht]; rfl
  have htl : t.length = 3 := by rw [← ht]; rfl
  have hs0 : ∀ a, (⟨some (H.length + 2, 0), 0, 0⟩ : Sl).p = some a → H.length + 1 < a.1 := fun a ha => by cases ha; simp only; omega
  have h0 : Em (H ++ t) ⟨some (H.length + 2, 0), 0, 0⟩ 2 (H ++ t) ⟨some (H.length + 2, 0), 0, 0⟩ [] := Em.start ⟨rfl, rfl, fun hh => (by cases hh), fun a ha => by cases ha; exact ⟨rfl, .inr (by rw [tl_get1]; exact ht3)⟩⟩
  have done : ∀ sF GF, (∀ x ∈ st.wn, ¬ (x.1 = k ∧ n < x.2)) → Em (H ++ t) ⟨some (H.length + 2, 0), 0, 0⟩ 2 GF sF (rowsOf ctW ((ains st.wn k n).map rwn)) → sF.len = (ains st.wn k n).length →
      WP ((wr GF H.length 3 [.sl 2 sF]).bind fun (H39 : Heap) => Option.bind (α := RfV) (rd H39 (.agg [.sl 3, .sl 3, .sl 1, .sl 2]) H.length 0) fun v40 => (wr H39 (H.length + 1) 0 [.sl 3 v40.1, .sl 3 v40.2.1, .sl 1 v40.2.2.1, .sl 2 v40.2.2.2.1]).bind fun (H41 : Heap) =>
        Option.bind (α := RfV) (rd H41 (.agg [.sl 3, .sl 3, .sl 1, .sl 2]) (H.length + 1) 0) fun v42 => some ((v42, ()), H41)) fun r => ∃ wn, ((∀ x ∈ st.wn, ¬ (x.1 = k ∧ n < x.2)) → wn = ains st.wn k n) ∧ ((∃ x ∈ st.wn, x.1 = k ∧ n < x.2) → wn = st.wn) ∧ RRes H v r.2 r.1.1 ⟨st.sp, st.lv, st.bd, wn⟩ := fun sF GF hno hE hl => by
    obtain ⟨hG, hbox⟩ := h.box t ht0 (fun a ha => by have := hs0 a ha; omega) hE
    have hres : GF[H.length + 1]? = some (.cells [.sl 3 Sl.nil, .sl 3 Sl.nil, .sl 1 Sl.nil, .sl 2 Sl.nil] .exact) := hE.get (by rw [tl_get1]; exact ht2) fun o ho => by have := hs0 _ ho; simp only at this; omega
    refine wp_fin (v' := (v.1, v.2.1, v.2.2.1, sF, ())) hbox hres rfl (by omega) (by decide) rfl ?_
    refine ⟨_, fun _ => rfl, fun ⟨x, hx, hh⟩ => absurd hh (hno x hx), ?_⟩
    refine rf_done (v' := (v.1, v.2.1, v.2.2.1, sF, ())) h (by omega) (by omega) hs0 hE ⟨h.w.wn' hk n, hG.sp, hG.lv, hG.bd, Row.grown hE.g, hG.spl, hG.lvl, hG.bdl, hl⟩ (fun b hb => ?_) _ _
    rcases hb with hb | hb | hb | hb
    · exact .inl (.inl hb)
    · exact .inl (.inr (.inl hb))
    · exact .inl (.inr (.inr (.inl hb)))
    · exact .inr hb
  have hall := outI_all k n st.wn
  unfold ref08_State_worn
  simp only [List.append_assoc, List.cons_append, List.nil_append, List.length_append, List.length_cons, List.length_nil, Nat.zero_add]
  rw [ht]
  refine wp_seq _ (wp_rise st.wn.length (WornI st (H ++ t) ⟨some (H.length + 2, 0), 0, 0⟩ k n)
    (fun x G => (x = .inr () ∧ (∃ x ∈ st.wn, x.1 = k ∧ n < x.2) ∧ RRes H v G v st ∧ G[H.length + 1]? = some (.cells (vC v) .exact)) ∨ ∃ s, x = .inl (s, putI k st.wn, ()) ∧ Em (H ++ t) ⟨some (H.length + 2, 0), 0, 0⟩ 2 G s (rowsOf ctW ((outI k n st.wn).map rwn)) ∧ s.len = (outI k n st.wn).length ∧ (∀ x ∈ st.wn, ¬ (x.1 = k ∧ n < x.2))) ?_ ?_ ?_) ?_
  · intro i y G hi hI
    exact wp_mono (worn_step h (by simp) ht0 ht2 (fun a ha => by have := hs0 a ha; omega) hi hI) fun r hr => by
      obtain ⟨r, G'⟩ := r
      cases r with
      | inl y => exact hr
      | inr x => exact .inl ⟨hr.1, ⟨_, List.getElem_mem hi, hr.2.1⟩, hr.2.2⟩
  · rintro y G ⟨s, rfl, hE, hn, hno⟩
    rw [List.take_length] at hE hn ⊢
    obtain ⟨_, hbox⟩ := h.box t ht0 (fun a ha => by have := hs0 a ha; omega) hE
    have hv : rdSl 2 G H.length 3 = some v.2.2.2.1 := rdSl_of hbox rfl
    unfold ref08_State_worn.s1
    exact wp_to hv (wp_f (decide_eq_false (by rw [h.wnl]; exact Int.lt_irrefl _)) (wp_some (.inr ⟨s, rfl, hE, hn, fun x hx => by obtain ⟨j, hj, rfl⟩ := List.getElem_of_mem hx; exact hno j hj hj⟩)))
  · exact ⟨_, rfl, h0, rfl, fun j _ hj => absurd hj (Nat.not_lt_zero _)⟩
  · rintro ⟨x, G⟩ (⟨rfl, hex, hr, hbx⟩ | ⟨s, rfl, hE, hn, hno⟩)
    · have hrd : rd G (.agg [.sl 3, .sl 3, .sl 1, .sl 2]) (H.length + 1) 0 = (some v : Option RfV) := rd_agg_of hbx (by simp [vC]) rfl
      refine wp_to hrd (wp_some ⟨st.wn, fun hno => ?_, fun _ => rfl, hr⟩)
      obtain ⟨x, hx, hh⟩ := hex
      exact absurd hh (hno x hx)
    · refine wp_c (fun e => ?_) (fun e => ?_)
      · have e : putI k st.wn = false := by simpa using e
        rw [if_pos e] at hall
        have hol := outI_len h.w.wn k n
        refine wp_app hE rfl (by decide) (by omega) fun s' G' hE' hn' => done s' G' hno ?_ ?_
        · rw [← hall, List.map_append, rowsOf_append']; exact hE'
        · rw [← hall, List.length_append, ← hn]; exact hn'
      · have e : ¬ putI k st.wn = false := by simpa using e
        rw [if_neg e, List.append_nil] at hall
        rw [hall] at hE hn
        exact done s G hno hE hn
end
end Ev
set_option linter.unusedSimpArgs false
set_option linter.unusedVariables false
namespace Ev
open Go (IntKind)

section
variable {H G : Heap} {v v' : RfV} {st st' : Sta}
theorem SaW.gone (w : SaW st) (id : Int) : SaW ⟨adrop st.sp id, lvOff st.lv id, st.bd, st.wn⟩ :=
  ⟨w.sp.drop _, lvOff_asc w.lv id, w.bd, w.wn, fun y hy => by
    have hm := List.mem_filter.1 hy
    have hne : ¬ y.1 / 1024 = id := by simpa using hm.2
    show (afind (adrop st.sp id) (y.1 / 1024)).isSome = true
    rw [afind_drop w.sp, if_neg hne]
    exact w.own y hm.1, fun y hy => w.ids y ((adrop_sub _ _).subset hy), w.bds, w.wns⟩
theorem rf_trim (h : RfAt H v st) (id : Int) {p : Int} (hp : 0 ≤ p ∧ p < 1024) : WP (ref08_State_without v id p H) fun r => RRes H v r.2 r.1.1 ⟨st.sp, adrop st.lv (id * 1024 + p), st.bd, st.wn⟩ := by
  have hmany := h.w.many
  obtain ⟨s, G, e1, e2, e3, e4, e5⟩ := rf_without h.lv h.lvl (by omega) id p
  rw [stay_drop h.w.lv id hp] at e2 e3
  have hG := h.keep e4 fun _ _ hf => hf
  refine ⟨_, e1, ⟨h.w.less _, hG.sp, e2, hG.bd, hG.wn, hG.spl, e3, hG.bdl, hG.wnl⟩, e4, fun b hb => ?_⟩
  rcases hb with hb | hb | hb | hb
  · exact .inl (.inl hb)
  · obtain ⟨o, ho⟩ := hb
    exact .inr (by have := e5 b o ho; omega)
  · exact .inl (.inr (.inr (.inl hb)))
  · exact .inl (.inr (.inr (.inr hb)))
def offS (id : Int) (x : Int × Int × Bool) : Bool := !decide (x.1 = id)
theorem dropped_step (h : RfAt H v st) {id : Int} {t : Heap} (ht : t[0]? = some (.cells (vC v) .exact)) {s0 : Sl} (hs0 : ∀ a, s0.p = some a → H.length < a.1)
    {i : Nat} (hi : i < st.sp.length) {s : Sl} (hE : Em (H ++ t) s0 3 G s (rowsOf ctP (((st.sp.take i).filter (offS id)).map rsp))) (hn : s.len = ((st.sp.take i).filter (offS id)).length) :
    WP (ref08_State_dropped.s1 id H (s, (i : Int), ()) G) fun r => Sum.elim (fun y => ∃ s', y = (s', ((i + 1 : Nat) : Int), ()) ∧
      Em (H ++ t) s0 3 r.2 s' (rowsOf ctP (((st.sp.take (i + 1)).filter (offS id)).map rsp)) ∧ s'.len = ((st.sp.take (i + 1)).filter (offS id)).length) (fun _ => False) r.1 := by
  obtain ⟨hG, hbox⟩ := h.box t ht hs0 hE
  have hlm : (st.sp.map rsp).length = st.sp.length := List.length_map _
  have hx : (st.sp.map rsp)[i]'(by omega) = rsp st.sp[i] := List.getElem_map _
  have hv : rdSl 3 G H.length 0 = some v.1 := rdSl_of hbox rfl
  obtain ⟨b0, o0, r1, r2, _⟩ := Row.rd (cts := ctP) (rows := st.sp.map rsp) hG.sp (i := i) (by omega) (by decide)
  obtain ⟨b1, o1, r3, r4⟩ := row_int (cts := ctP) (rows := st.sp.map rsp) hG.sp (i := i) (by omega) (by decide) (j := 0) (n := st.sp[i].1) (by decide) (by rw [hx]; rfl)
  rw [r1] at r3
  cases r3
  rw [hx] at r2
  have r4 : rdI .i64 G b0 o0 = some st.sp[i].1 := r4
  have hl := List.length_filter_le (offS id) (st.sp.take i)
  rw [List.length_take] at hl
  have hfew := h.w.few
  have hw := wrap_succ (show i < 9223372036854775807 by omega)
  rw [take_snoc hi, List.filter_append, List.filter_cons]
  unfold ref08_State_dropped.s1
  refine wp_to hv (wp_t (decide_eq_true (by rw [h.spl]; exact Int.ofNat_lt.2 hi)) ?_)
  refine wp_to hv (wp_to r1 (wp_to r4 ?_))
  refine wp_if (p := ¬ st.sp[i].1 = id) (by simp) (fun e => ?_) (fun e => ?_)
  · refine wp_to hv (wp_to r1 (wp_to r2 ?_))
    refine wp_app hE rfl (by decide) (by omega) fun s' G' hE' hn' => wp_some ⟨s', ?_, ?_, ?_⟩
    · simp only [hw]
    · rw [if_pos (by unfold offS; simpa using e), List.map_append, rowsOf_append']; exact hE'
    · rw [if_pos (by unfold offS; simpa using e), List.length_append, ← hn]; exact hn'
  · have e' : ¬ offS id st.sp[i] = true := by unfold offS; simpa using e
    refine wp_some ⟨s, ?_, ?_, ?_⟩
    · simp only [hw]
    · rw [if_neg e', List.filter_nil, List.append_nil]; exact hE
    · rw [if_neg e', List.filter_nil, List.append_nil]; exact hn
theorem rf_dropped (h : RfAt H v st) (id : Int) : WP (ref08_State_dropped v id H) fun r => RRes H v r.2 r.1.1 ⟨adrop st.sp id, lvOff st.lv id, st.bd, st.wn⟩ := by
  have hfew := h.w.few
  have hmany := h.w.many
  generalize ht : [Blk.cells [.sl 3 v.1, .sl 3 v.2.1, .sl 1 v.2.2.1, .sl 2 v.2.2.2.1] .exact, .cells [.sl 3 Sl.nil, .sl 3 Sl.nil, .sl 1 Sl.nil, .sl 2 Sl.nil] .exact, .cells [] .exact] = t
  have ht0 : t[0]? = some (.cells (vC v) .exact) := by rw [← ht]; rfl
  have ht2 : t[1]? = some (.cells [.sl 3 Sl.nil, .sl 3 Sl.nil, .sl 1 Sl.nil, .sl 2 Sl.nil] .exact) := by rw [← ht]; rfl
  have ht3 : t[2]? = some (.cells [] .exact) := by rw [← ht]; rfl
  have htl : t.length = 3 := by rw [← ht]; rfl
  have hs0 : ∀ a, (⟨some (H.length + 2, 0), 0, 0⟩ : Sl).p = some a → H.length + 1 < a.1 := fun a ha => by cases ha; simp only; omega
  have h0 : Em (H ++ t) ⟨some (H.length + 2, 0), 0, 0⟩ 3 (H ++ t) ⟨some (H.length + 2, 0), 0, 0⟩ [] := Em.start ⟨rfl, rfl, fun hh => (by cases hh), fun a ha => by cases ha; exact ⟨rfl, .inr (by rw [tl_get1]; exact ht3)⟩⟩
  unfold ref08_State_dropped
  simp only [List.append_assoc, List.cons_append, List.nil_append, List.length_append, List.length_cons, List.length_nil, Nat.zero_add]
  rw [ht]
  refine wp_seq _ (wp_rise st.sp.length (fun i y G => ∃ s, y = (s, (i : Int), ()) ∧ Em (H ++ t) ⟨some (H.length + 2, 0), 0, 0⟩ 3 G s (rowsOf ctP (((st.sp.take i).filter (offS id)).map rsp)) ∧ s.len = ((st.sp.take i).filter (offS id)).length)
    (fun x G => ∃ s, x = (s, ()) ∧ Em (H ++ t) ⟨some (H.length + 2, 0), 0, 0⟩ 3 G s (rowsOf ctP ((adrop st.sp id).map rsp)) ∧ s.len = (adrop st.sp id).length) ?_ ?_ ?_) ?_
  · rintro i y G hi ⟨s, rfl, hE, hn⟩
    exact wp_mono (dropped_step h ht0 (fun a ha => by have := hs0 a ha; omega) hi hE hn) fun r hr => by
      obtain ⟨r, G'⟩ := r
      cases r with
      | inl y => exact hr
      | inr x => exact hr.elim
  · rintro y G ⟨s, rfl, hE, hn⟩
    rw [List.take_length, show st.sp.filter (offS id) = adrop st.sp id from adrop_filter h.w.sp id] at hE hn
    obtain ⟨_, hbox⟩ := h.box t ht0 (fun a ha => by have := hs0 a ha; omega) hE
    have hv : rdSl 3 G H.length 0 = some v.1 := rdSl_of hbox rfl
    unfold ref08_State_dropped.s1
    exact wp_to hv (wp_f (decide_eq_false (by rw [h.spl]; exact Int.lt_irrefl _)) (wp_some ⟨s, rfl, hE, hn⟩))
  · exact ⟨_, rfl, h0, rfl⟩
  · rintro ⟨⟨s, ⟨⟩⟩, G⟩ ⟨s', hs, hE, hn⟩
    cases hs
    obtain ⟨hG, hbox⟩ := h.box t ht0 (fun a ha => by have := hs0 a ha; omega) hE
    have hres : G[H.length + 1]? = some (.cells [.sl 3 Sl.nil, .sl 3 Sl.nil, .sl 1 Sl.nil, .sl 2 Sl.nil] .exact) := hE.get (by rw [tl_get1]; exact ht2) fun o ho => by have := hs0 _ ho; simp only at this; omega
    have hw : wr G H.length 0 [.sl 3 s] = some (G.set H.length (.cells (vC (s, v.2.1, v.2.2.1, v.2.2.2.1, ())) .exact)) := by rw [wr1_of hbox (by decide) (by simp [vC])]; rfl
    have kf : Keep (fun b => b = H.length) G (G.set H.length (.cells (vC (s, v.2.1, v.2.2.1, v.2.2.2.1, ())) .exact)) := Keep.set _ _ _ rfl
    have hso : ∀ b o, s.p = some (b, o) → H.length + 2 ≤ b := fun b o hp => by
      rcases hE.o _ hp with hh | ⟨o', hh⟩
      · simp only [List.length_append] at hh; omega
      · have hh : some (H.length + 2, 0) = some (b, o') := hh
        cases hh; omega
    have hrow : Row (G.set H.length (.cells (vC (s, v.2.1, v.2.2.1, v.2.2.2.1, ())) .exact)) 3 v.2.1 (rowsOf ctL (st.lv.map rlv)) := hG.lv.keep kf fun b o hp e => by have := h.lv.lt hp; omega
    obtain ⟨sl, G2, w1, w2, w3, w4, w5⟩ := rf_without (v := (s, v.2.1, v.2.2.1, v.2.2.2.1, ())) hrow h.lvl (by omega) id (-1)
    rw [stay_off st.lv id (by decide)] at w2 w3
    have hbox1 : rd (G.set H.length (.cells (vC (s, v.2.1, v.2.2.1, v.2.2.2.1, ())) .exact)) (.agg [.sl 3, .sl 3, .sl 1, .sl 2]) H.length 0 = (some (s, v.2.1, v.2.2.1, v.2.2.2.1, ()) : Option RfV) := rd_agg_of (set_get (get_lt hbox)) (by simp [vC]) rfl
    have hlG : H.length + 3 ≤ G.length := by have := hE.k.len; simp only [List.length_append] at this; omega
    have hres2 : G2[H.length + 1]? = some (.cells [.sl 3 Sl.nil, .sl 3 Sl.nil, .sl 1 Sl.nil, .sl 2 Sl.nil] .exact) := by rw [w4.same _ (by simp only [List.length_set]; omega) fun hf => hf, set_get' (by omega)]; exact hres
    have hwr : wr G2 (H.length + 1) 0 [.sl 3 s, .sl 3 sl, .sl 1 v.2.2.1, .sl 2 v.2.2.2.1] = some (G2.set (H.length + 1) (.cells (vC (s, sl, v.2.2.1, v.2.2.2.1, ())) .exact)) := by
      rw [wr_of hres2 (by decide) (by simp)]; rfl
    have hrd : rd (G2.set (H.length + 1) (.cells (vC (s, sl, v.2.2.1, v.2.2.2.1, ())) .exact)) (.agg [.sl 3, .sl 3, .sl 1, .sl 2]) (H.length + 1) 0 = (some (s, sl, v.2.2.1, v.2.2.2.1, ()) : Option RfV) := rd_agg_of (set_get (get_lt hres2)) (by simp [vC]) rfl
    refine wp_to hw (wp_to hbox1 (wp_to w1 (wp_to hwr (wp_to hrd (wp_some ?_)))))
    have k1 : Keep (fun b => b = H.length ∨ b = H.length + 1) G (G2.set (H.length + 1) (.cells (vC (s, sl, v.2.2.1, v.2.2.2.1, ())) .exact)) :=
      ((kf.mono fun b e => .inl e).trans (w4.mono fun _ hf => hf.elim)).trans (Keep.set _ _ _ (.inr rfl))
    have hok : ∀ b, blkV (s, sl, v.2.2.1, v.2.2.2.1, ()) b → ¬ (b = H.length ∨ b = H.length + 1) ∧ (blkV v b ∨ H.length ≤ b) := fun b hb => by
      rcases hb with ⟨o, hb⟩ | ⟨o, hb⟩ | hb | hb
      · have := hso b o hb; exact ⟨by omega, .inr (by omega)⟩
      · have := w5 b o hb; simp only [List.length_set] at this; exact ⟨by omega, .inr (by omega)⟩
      · have hb' : blkV v b := .inr (.inr (.inl hb))
        have := h.lt hb'; exact ⟨by omega, .inl hb'⟩
      · have hb' : blkV v b := .inr (.inr (.inr hb))
        have := h.lt hb'; exact ⟨by omega, .inl hb'⟩
    have kl : Keep (fun b => b = H.length + 1) G2 (G2.set (H.length + 1) (.cells (vC (s, sl, v.2.2.1, v.2.2.2.1, ())) .exact)) := Keep.set _ _ _ rfl
    have hF := hG.keep k1 fun b hb e => by have := h.lt hb; omega
    refine ⟨⟨h.w.gone id, (Row.grown hE.g).keep k1 fun b o hp => (hok b (.inl ⟨o, hp⟩)).1, w2.keep kl fun b o hp e => (hok b (.inr (.inl ⟨o, hp⟩))).1 (.inr e), hF.bd, hF.wn, hn, w3, h.bdl, h.wnl⟩, ⟨?_, fun b hb _ => ?_⟩, fun b hb => (hok b hb).2⟩
    · exact Nat.le_trans (by omega) k1.len
    · refine (k1.same b (by omega) (by omega)).trans ?_
      rw [hE.k.same b (by simp only [List.length_append]; omega) fun ⟨o, ho⟩ => by have := hs0 _ ho; simp only at this; omega, List.getElem?_append_left hb]
end
end Ev
set_option linter.unusedSimpArgs false
set_option linter.unusedVariables false
namespace Ev
open Go (IntKind)

def nilV : List C := [.sl 3 Sl.nil, .sl 3 Sl.nil, .sl 1 Sl.nil, .sl 2 Sl.nil]
structure DoM (H : Heap) (v : RfV) (st : Sta) (x : RecT) (G : Heap) : Prop where
  s : RfAt G v st
  k : Keep (fun _ => False) H G
  b0 : G[H.length]? = some (.cells (vC v) .exact)
  b1 : G[H.length + 1]? = some (recB x)
  b2 : G[H.length + 2]? = some (.cells nilV .exact)
  o : ∀ b, blkV v b → b < H.length
def DoQ (H : Heap) (v : RfV) (st : Sta) (x : RecT) (r : (RfV × Int × Unit) × Heap) : Prop := r.1.2.1 = (st.applyS x).1 ∧ RRes H v r.2 r.1.1 (st.applyS x).2
section
variable {H G : Heap} {v v' : RfV} {st st' : Sta} {x : RecT}
theorem DoM.keep (m : DoM H v st x G) {G' : Heap} (k : Keep (fun _ => False) G G') : DoM H v st x G' :=
  ⟨m.s.keep k fun _ _ hf => hf, m.k.trans k, k.get m.b0 fun hf => hf, k.get m.b1 fun hf => hf, k.get m.b2 fun hf => hf, m.o⟩
theorem DoM.rv (m : DoM H v st x G) : rd G (.agg [.sl 3, .sl 3, .sl 1, .sl 2]) H.length 0 = (some v : Option RfV) := rd_agg_of m.b0 (by simp [vC]) rfl
theorem DoM.x0 (m : DoM H v st x G) : rdI .i64 G (H.length + 1) 0 = some x.1 := rdI_of m.b1 rfl
theorem DoM.x1 (m : DoM H v st x G) : rdI .i64 G (H.length + 1) 1 = some x.2.1 := rdI_of m.b1 rfl
theorem DoM.x2 (m : DoM H v st x G) : rdI .i64 G (H.length + 1) 2 = some x.2.2.1 := rdI_of m.b1 rfl
theorem DoM.x3 (m : DoM H v st x G) : rdI .i64 G (H.length + 1) 3 = some x.2.2.2.1 := rdI_of m.b1 rfl
theorem DoM.x4 (m : DoM H v st x G) : rdI .i64 G (H.length + 1) 4 = some x.2.2.2.2.1 := rdI_of m.b1 rfl
theorem DoM.x5 (m : DoM H v st x G) : rdI .i64 G (H.length + 1) 5 = some x.2.2.2.2.2.1 := rdI_of m.b1 rfl
theorem DoM.sp (m : DoM H v st x G) : rdSl 3 G H.length 0 = some v.1 := rdSl_of m.b0 rfl
theorem DoM.lv (m : DoM H v st x G) : rdSl 3 G H.length 1 = some v.2.1 := rdSl_of m.b0 rfl
theorem RRes.refl (h : RfAt H v st) : RRes H v H v st := ⟨h, Keep.refl _ _, fun b hb => .inl hb⟩
/-- A state is told, with an error's number. -/
theorem ret_state {v0 : RfV} {B : Nat} (hs : RfAt G v' st') (hk : Keep (fun _ => False) H G) (hB : H.length ≤ B) {cs : List C} (hb : G[B]? = some (.cells cs .exact)) (hl : cs.length = 4) (hn : ∀ b, blkV v' b → (blkV v0 b ∨ H.length ≤ b) ∧ b ≠ B) {e : Int}
    {Q : (RfV × Int × Unit) × Heap → Prop} (hQ : ∀ G', RRes H v0 G' v' st' → Q ((v', e, ()), G')) :
    WP ((wr G B 0 [.sl 3 v'.1, .sl 3 v'.2.1, .sl 1 v'.2.2.1, .sl 2 v'.2.2.2.1]).bind fun (H57 : Heap) => Option.bind (α := RfV) (rd H57 (.agg [.sl 3, .sl 3, .sl 1, .sl 2]) B 0) fun v58 => some ((v58, e, ()), H57)) Q := by
  have hwr : wr G B 0 [.sl 3 v'.1, .sl 3 v'.2.1, .sl 1 v'.2.2.1, .sl 2 v'.2.2.2.1] = some (G.set B (.cells (vC v') .exact)) := by
    rw [wr_of hb (by decide) (by rw [hl]; exact Nat.le_refl 4)]
    obtain ⟨c0, c1, c2, c3, rfl⟩ : ∃ c0 c1 c2 c3, cs = [c0, c1, c2, c3] := by
      match cs, hl with
      | [c0, c1, c2, c3], _ => exact ⟨c0, c1, c2, c3, rfl⟩
    rfl
  have hrd : rd (G.set B (.cells (vC v') .exact)) (.agg [.sl 3, .sl 3, .sl 1, .sl 2]) B 0 = (some v' : Option RfV) := rd_agg_of (set_get (get_lt hb)) (by simp [vC]) rfl
  have kk : Keep (fun b => b = B) G (G.set B (.cells (vC v') .exact)) := Keep.set _ _ _ rfl
  refine wp_to hwr (wp_to hrd (wp_some (hQ _ ⟨hs.keep kk fun b hbb e => (hn b hbb).2 e, ⟨by have := hk.len; simp only [List.length_set]; omega, fun b hbb _ => ?_⟩, fun b hbb => (hn b hbb).1⟩)))
  rw [set_get' (by omega)]
  exact hk.same b hbb fun hf => hf
theorem DoM.ret (m : DoM H v st x G) {G' : Heap} (r : RRes G v G' v' st') {e : Int} (hx : st.applyS x = (e, st')) :
    WP ((wr G' (H.length + 2) 0 [.sl 3 v'.1, .sl 3 v'.2.1, .sl 1 v'.2.2.1, .sl 2 v'.2.2.2.1]).bind fun (H57 : Heap) => Option.bind (α := RfV) (rd H57 (.agg [.sl 3, .sl 3, .sl 1, .sl 2]) (H.length + 2) 0) fun v58 => some ((v58, e, ()), H57)) (DoQ H v st x) := by
  refine ret_state r.s (m.k.trans r.k) (by omega) (r.k.get m.b2 fun hf => hf) rfl (v0 := v) (fun b hb => ?_) fun G' hr => ?_
  · rcases r.n b hb with hh | hh
    · exact ⟨.inl hh, by have := m.o b hh; omega⟩
    · have := get_lt m.b2
      have := m.k.len
      exact ⟨.inr (by omega), by omega⟩
  · unfold DoQ
    rw [hx]
    exact ⟨rfl, hr⟩
theorem DoM.err (m : DoM H v st x G) {e : Int} (hx : st.applyS x = (e, st)) :
    WP (Option.bind (α := RfV) (rd G (.agg [.sl 3, .sl 3, .sl 1, .sl 2]) H.length 0) fun v15 => (wr G (H.length + 2) 0 [.sl 3 v15.1, .sl 3 v15.2.1, .sl 1 v15.2.2.1, .sl 2 v15.2.2.2.1]).bind fun (H57 : Heap) => Option.bind (α := RfV) (rd H57 (.agg [.sl 3, .sl 3, .sl 1, .sl 2]) (H.length + 2) 0) fun v58 => some ((v58, e, ()), H57)) (DoQ H v st x) :=
  wp_to m.rv (m.ret (RRes.refl m.s) hx)
theorem rf_begin (h : RfAt H v st) (x : RecT) : DoM H v st x (H ++ [.cells [.sl 3 v.1, .sl 3 v.2.1, .sl 1 v.2.2.1, .sl 2 v.2.2.2.1] .exact, .cells [.int .i64 x.1, .int .i64 x.2.1, .int .i64 x.2.2.1, .int .i64 x.2.2.2.1, .int .i64 x.2.2.2.2.1, .int .i64 x.2.2.2.2.2.1] .exact, .cells [.sl 3 Sl.nil, .sl 3 Sl.nil, .sl 1 Sl.nil, .sl 2 Sl.nil] .exact]) :=
  ⟨h.keep (Keep.app (fun _ => False) H _) fun _ _ hf => hf, Keep.app _ _ _, by rw [tl_get0]; rfl, by rw [tl_get1]; rfl, by rw [tl_get1]; rfl, fun b hb => h.lt hb⟩
theorem wp_tmp {β : Type} {a b c : Int} {K : Heap → Option β} {Q : β → Prop} (k : WP (K (G ++ [.cells [.int .i64 a, .int .i64 b, .int .i64 c] .exact])) Q) :
    WP ((wr (G ++ [.cells [.int .i64 0, .int .i64 0, .int .i64 0] .exact]) G.length 0 [.int .i64 a, .int .i64 b, .int .i64 c]).bind K) Q :=
  wp_to (by rw [wr_t0, wr_c0 _ _ _ _ (by simp)]; rfl) k
theorem wp_tmpB {β : Type} {a b : Int} {c : Bool} {K : Heap → Option β} {Q : β → Prop} (k : WP (K (G ++ [.cells [.int .i64 a, .int .i64 b, .bool c] .exact])) Q) :
    WP ((wr (G ++ [.cells [.int .i64 0, .int .i64 0, .bool false] .exact]) G.length 0 [.int .i64 a, .int .i64 b, .bool c]).bind K) Q :=
  wp_to (by rw [wr_t0, wr_c0 _ _ _ _ (by simp)]; rfl) k
theorem mv_snoc (f t : Int) (l : List (Int × Int)) (y : Int × Int) : mv f t (l ++ [y]) = mv f t l ++ [if y.2 = f then (y.1, t) else y] := by unfold mv; rw [List.map_append]; rfl
theorem mv_len (f t : Int) (l : List (Int × Int)) : (mv f t l).length = l.length := List.length_map _
theorem SaW.moved (w : SaW st) (f t : Int) : SaW ⟨st.sp, mv f t st.lv, st.bd, st.wn⟩ :=
  ⟨w.sp, mv_asc w.lv, w.bd, w.wn, fun y hy => by
    obtain ⟨z, hz, rfl⟩ := List.mem_map.1 hy
    have : (if z.2 = f then (z.1, t) else z).1 = z.1 := by split <;> rfl
    rw [this]; exact w.own z hz, w.ids, w.bds, w.wns⟩
/-- Leaves that are moved. -/
theorem do_move (m : DoM H v st x G) : WP (loopW (ref08_State_Do.s1 H (H ++ [.cells [.sl 3 v.1, .sl 3 v.2.1, .sl 1 v.2.2.1, .sl 2 v.2.2.2.1] .exact])) (⟨some (G.length, 0), 0, 0⟩, 0, ()) (G ++ [.cells [] .exact]))
    fun r => ∃ s, r.1 = (s, ()) ∧ Em (G ++ [.cells [] .exact]) ⟨some (G.length, 0), 0, 0⟩ 3 r.2 s (rowsOf ctL ((mv x.2.2.2.1 x.2.2.2.2.1 st.lv).map rlv)) ∧ s.len = st.lv.length := by
  have hH1 : (H ++ [Blk.cells [.sl 3 v.1, .sl 3 v.2.1, .sl 1 v.2.2.1, .sl 2 v.2.2.2.1] .exact]).length = H.length + 1 := by simp
  generalize H ++ [Blk.cells [.sl 3 v.1, .sl 3 v.2.1, .sl 1 v.2.2.1, .sl 2 v.2.2.2.1] .exact] = H1 at hH1
  have m0 := m.keep (Keep.app (fun _ => False) G [.cells [] .exact])
  have hmany := m.s.w.many
  have hoff : ∀ b o, (⟨some (G.length, 0), 0, 0⟩ : Sl).p = some (b, o) → b = G.length := fun b o hh => by cases hh; rfl
  have hst : ∀ {G' : Heap} {s : Sl} {cs : List C}, Em (G ++ [.cells [] .exact]) ⟨some (G.length, 0), 0, 0⟩ 3 G' s cs → RfAt G' v st ∧ G'[H.length]? = some (.cells (vC v) .exact) ∧ G'[H.length + 1]? = some (recB x) := fun hE => by
    have h1 := get_lt m.b0
    have h2 := get_lt m.b1
    refine ⟨m0.s.keep hE.k fun b hb ⟨o, ho⟩ => ?_, hE.get m0.b0 fun o ho => ?_, hE.get m0.b1 fun o ho => ?_⟩
    · have := hoff b o ho; have := m.o b hb; omega
    · have := hoff _ o ho; omega
    · have := hoff _ o ho; omega
  have h0 : Em (G ++ [.cells [] .exact]) ⟨some (G.length, 0), 0, 0⟩ 3 (G ++ [.cells [] .exact]) ⟨some (G.length, 0), 0, 0⟩ [] := Em.start ⟨rfl, rfl, fun hh => (by cases hh), fun a ha => by cases ha; exact ⟨rfl, .inr (by rw [tl_get0]; rfl)⟩⟩
  refine wp_mono (wp_rise st.lv.length (fun i y G' => ∃ s, y = (s, (i : Int), ()) ∧ Em (G ++ [.cells [] .exact]) ⟨some (G.length, 0), 0, 0⟩ 3 G' s (rowsOf ctL ((mv x.2.2.2.1 x.2.2.2.2.1 (st.lv.take i)).map rlv)) ∧ s.len = i)
    (fun y G' => ∃ s, y = (s, ()) ∧ Em (G ++ [.cells [] .exact]) ⟨some (G.length, 0), 0, 0⟩ 3 G' s (rowsOf ctL ((mv x.2.2.2.1 x.2.2.2.2.1 st.lv).map rlv)) ∧ s.len = st.lv.length) ?_ ?_ ?_) (fun r hr => hr)
  · rintro i y K hi ⟨s, rfl, hE, hn⟩
    obtain ⟨hK, hb0, hb1⟩ := hst hE
    have hlm : (st.lv.map rlv).length = st.lv.length := List.length_map _
    have hx : (st.lv.map rlv)[i]'(by omega) = rlv st.lv[i] := List.getElem_map _
    have hv : rdSl 3 K H.length 1 = some v.2.1 := rdSl_of hb0 rfl
    obtain ⟨b0, o0, r1, r2, _⟩ := Row.rd (cts := ctL) (rows := st.lv.map rlv) hK.lv (i := i) (by omega) (by decide)
    rw [hx] at r2
    rw [take_snoc hi, mv_snoc]
    generalize st.lv[i] = y at r2 ⊢
    have hb1' : (K ++ [Blk.cells [.int .i64 (y.1 / 1024), .int .i64 (y.1 % 1024), .int .i64 y.2] .exact])[H.length + 1]? = some (recB x) := by rw [List.getElem?_append_left (get_lt hb1)]; exact hb1
    have t0 : (K ++ [Blk.cells [.int .i64 (y.1 / 1024), .int .i64 (y.1 % 1024), .int .i64 y.2] .exact])[K.length]? = some (.cells [.int .i64 (y.1 / 1024), .int .i64 (y.1 % 1024), .int .i64 y.2] .exact) := by rw [tl_get0]; rfl
    have hw := wrap_succ (show i < 9223372036854775807 by omega)
    unfold ref08_State_Do.s1
    refine wp_to hv (wp_t (decide_eq_true (by rw [m.s.lvl]; exact Int.ofNat_lt.2 hi)) (wp_to hv (wp_to r1 (wp_to r2 (wp_tmp (wp_to (rdI_of t0 rfl) ?_))))))
    rw [hH1]
    refine wp_to (rdI_of hb1' rfl) (wp_if (p := y.2 = x.2.2.2.1) rfl (fun e => ?_) (fun e => ?_))
    · refine wp_to (rdI_of hb1' rfl) ?_
      have hw2 : wr (K ++ [Blk.cells [.int .i64 (y.1 / 1024), .int .i64 (y.1 % 1024), .int .i64 y.2] .exact]) K.length 2 [.int .i64 x.2.2.2.2.1] = some (K ++ [Blk.cells [.int .i64 (y.1 / 1024), .int .i64 (y.1 % 1024), .int .i64 x.2.2.2.2.1] .exact]) := by
        rw [wr_t0, wr_c0 _ _ _ _ (by simp)]; rfl
      refine wp_to hw2 (wp_to (rd3_of (cts := ctL) (x := (y.1 / 1024, y.1 % 1024, x.2.2.2.2.1, ())) (by rw [tl_get0]; rfl) rfl) ?_)
      refine wp_app (hE.push _) rfl (by decide) (by omega) fun s' G' hE' hn' => wp_some ⟨s', ?_, ?_, ?_⟩
      · simp only [hw]
      · rw [if_pos e, List.map_append, rowsOf_append']; exact hE'
      · rw [hn', hn]
    · refine wp_to (rd3_of (cts := ctL) (x := (y.1 / 1024, y.1 % 1024, y.2, ())) t0 rfl) ?_
      refine wp_app (hE.push _) rfl (by decide) (by omega) fun s' G' hE' hn' => wp_some ⟨s', ?_, ?_, ?_⟩
      · simp only [hw]
      · rw [if_neg e, List.map_append, rowsOf_append']; exact hE'
      · rw [hn', hn]
  · rintro y K ⟨s, rfl, hE, hn⟩
    rw [List.take_length] at hE
    obtain ⟨hK, hb0, hb1⟩ := hst hE
    have hv : rdSl 3 K H.length 1 = some v.2.1 := rdSl_of hb0 rfl
    unfold ref08_State_Do.s1
    exact wp_to hv (wp_f (decide_eq_false (by rw [m.s.lvl]; exact Int.lt_irrefl _)) (wp_some ⟨s, rfl, hE, hn⟩))
  · exact ⟨_, rfl, h0, rfl⟩
end
end Ev
set_option linter.unusedSimpArgs false
set_option linter.unusedVariables false
namespace Ev
open Go (IntKind)

section
variable {H G K : Heap} {v v' w0 : RfV} {st st' : Sta} {x : RecT}
theorem DoM.set (m : DoM H v st x K) {B : Nat} (hB : H.length + 3 ≤ B) (z : Blk) : DoM H v st x (K.set B z) := by
  have kk : Keep (fun b => b = B) K (K.set B z) := Keep.set _ _ _ rfl
  exact ⟨m.s.keep kk fun b hb e => by have := m.o b hb; omega, ⟨by have := m.k.len; simp only [List.length_set]; omega, fun b hb _ => by rw [set_get' (by omega)]; exact m.k.same b hb fun hf => hf⟩,
    kk.get m.b0 (by omega), kk.get m.b1 (by omega), kk.get m.b2 (by omega), m.o⟩
theorem do_copy (m : DoM H v st x G) {to q : Int} (hto : x.2.2.2.2.1 = to) {s0 : Sta} (hs0 : s0 = ⟨ains st.sp to (q, false), st.lv, st.bd, st.wn⟩) (hw0 : RfAt G w0 s0) (hn0 : ∀ b, blkV w0 b → (blkV v b ∨ H.length + 3 ≤ b)) :
    WP (loopW (ref08_State_Do.s2 H (H ++ [.cells [.sl 3 v.1, .sl 3 v.2.1, .sl 1 v.2.2.1, .sl 2 v.2.2.2.1] .exact]) ((w0, ()), G)) (0, ()) (G ++ [.cells (vC w0) .exact]))
      fun r => ∃ w, DoM H v st x r.2 ∧ RfAt r.2 w ⟨ains st.sp to (q, false), insAll to st.lv (pgs st.lv x.2.1), st.bd, st.wn⟩ ∧ r.2[G.length]? = some (.cells (vC w) .exact) ∧ ∀ b, blkV w b → (blkV v b ∨ H.length + 3 ≤ b) ∧ b ≠ G.length := by
  have hH1 : (H ++ [Blk.cells [.sl 3 v.1, .sl 3 v.2.1, .sl 1 v.2.2.1, .sl 2 v.2.2.2.1] .exact]).length = H.length + 1 := by simp
  generalize H ++ [Blk.cells [.sl 3 v.1, .sl 3 v.2.1, .sl 1 v.2.2.1, .sl 2 v.2.2.2.1] .exact] = H1 at hH1
  have hBl : H.length + 3 ≤ G.length := by have := get_lt m.b2; omega
  have hmany := m.s.w.many
  refine wp_mono (wp_rise (step := ref08_State_Do.s2 H H1 ((w0, ()), G)) st.lv.length (fun i y K => y = ((i : Int), ()) ∧ ∃ w, DoM H v st x K ∧ RfAt K w ⟨ains st.sp to (q, false), insAll to st.lv (pgs (st.lv.take i) x.2.1), st.bd, st.wn⟩ ∧ K[G.length]? = some (.cells (vC w) .exact) ∧ ∀ b, blkV w b → (blkV v b ∨ H.length + 3 ≤ b) ∧ b ≠ G.length)
    (fun _ K => ∃ w, DoM H v st x K ∧ RfAt K w ⟨ains st.sp to (q, false), insAll to st.lv (pgs st.lv x.2.1), st.bd, st.wn⟩ ∧ K[G.length]? = some (.cells (vC w) .exact) ∧ ∀ b, blkV w b → (blkV v b ∨ H.length + 3 ≤ b) ∧ b ≠ G.length) ?_ ?_ ?_) (fun r hr => hr)
  · rintro i y K hi ⟨rfl, w, mK, hw, hB, hn⟩
    have hlm : (st.lv.map rlv).length = st.lv.length := List.length_map _
    have hx : (st.lv.map rlv)[i]'(by omega) = rlv st.lv[i] := List.getElem_map _
    obtain ⟨b0, o0, r1, r2, _⟩ := Row.rd (cts := ctL) (rows := st.lv.map rlv) mK.s.lv (i := i) (by omega) (by decide)
    rw [hx] at r2
    rw [pgs_take st.lv x.2.1 hi]
    generalize st.lv[i] = y at r2 ⊢
    have mK' := mK.keep (Keep.app (fun _ => False) K [.cells [.int .i64 (y.1 / 1024), .int .i64 (y.1 % 1024), .int .i64 y.2] .exact])
    have hw' := hw.keep (Keep.app (fun _ => False) K [.cells [.int .i64 (y.1 / 1024), .int .i64 (y.1 % 1024), .int .i64 y.2] .exact]) fun _ _ hf => hf
    have hB' : (K ++ [Blk.cells [.int .i64 (y.1 / 1024), .int .i64 (y.1 % 1024), .int .i64 y.2] .exact])[G.length]? = some (.cells (vC w) .exact) := by rw [List.getElem?_append_left (get_lt hB)]; exact hB
    have t0 : (K ++ [Blk.cells [.int .i64 (y.1 / 1024), .int .i64 (y.1 % 1024), .int .i64 y.2] .exact])[K.length]? = some (.cells [.int .i64 (y.1 / 1024), .int .i64 (y.1 % 1024), .int .i64 y.2] .exact) := by rw [tl_get0]; rfl
    have hwr := wrap_succ (show i < 9223372036854775807 by omega)
    unfold ref08_State_Do.s2
    refine wp_to mK.lv (wp_t (decide_eq_true (by rw [m.s.lvl]; exact Int.ofNat_lt.2 hi)) (wp_to mK.lv (wp_to r1 (wp_to r2 (wp_tmp (wp_to (rdI_of t0 rfl) ?_))))))
    rw [hH1]
    refine wp_to mK'.x1 (wp_if (p := y.1 / 1024 = x.2.1) rfl (fun e => ?_) (fun e => ?_))
    · have hrB : rd (K ++ [Blk.cells [.int .i64 (y.1 / 1024), .int .i64 (y.1 % 1024), .int .i64 y.2] .exact]) (.agg [.sl 3, .sl 3, .sl 1, .sl 2]) G.length 0 = (some w : Option RfV) := rd_agg_of hB' (by simp [vC]) rfl
      refine wp_to hrB (wp_to mK'.x4 (wp_to (rdI_of t0 rfl) (wp_to (rdI_of t0 rfl) ?_)))
      obtain ⟨w', K2, e1, e2⟩ := rf_with hw' (id := to) (p := y.1 % 1024) (pl := y.2) (by omega) (x := (q, false)) (by show afind (ains st.sp to (q, false)) to = _; rw [afind_ins m.s.w.sp, if_pos rfl])
      rw [hto]
      have hB2 := e2.k.get hB' fun hf => hf
      have hw2 : wr K2 G.length 0 [.sl 3 w'.1, .sl 3 w'.2.1, .sl 1 w'.2.2.1, .sl 2 w'.2.2.2.1] = some (K2.set G.length (.cells (vC w') .exact)) := by
        rw [wr_of hB2 (by decide) (by simp [vC])]; rfl
      have hn' : ∀ b, blkV w' b → (blkV v b ∨ H.length + 3 ≤ b) ∧ b ≠ G.length := fun b hb => (e2.n b hb).elim (hn b) fun hh => by
        have := get_lt hB'
        exact ⟨.inr (by omega), by omega⟩
      refine wp_to e1 (wp_to hw2 (wp_some ⟨?_, w', (mK'.keep e2.k).set hBl _, ?_, set_get (get_lt hB2), hn'⟩))
      · simp only [hwr]
      · rw [if_pos e, insAll_snoc]
        exact e2.s.keep (F := fun b => b = G.length) (Keep.set _ _ _ rfl) fun b hb => (hn' b hb).2
    · refine wp_some ⟨?_, w, mK', ?_, hB', hn⟩
      · simp only [hwr]
      · rw [if_neg e, List.append_nil]; exact hw'
  · rintro y K ⟨rfl, w, mK, hw, hB, hn⟩
    rw [List.take_length] at hw
    unfold ref08_State_Do.s2
    exact wp_to mK.lv (wp_f (decide_eq_false (by rw [m.s.lvl]; exact Int.lt_irrefl _)) (wp_some ⟨w, mK, hw, hB, hn⟩))
  · subst hs0
    have k0 := Keep.app (fun _ => False) G [.cells (vC w0) .exact]
    refine ⟨rfl, w0, m.keep k0, ?_, by rw [tl_get0]; rfl, fun b hb => ⟨hn0 b hb, ?_⟩⟩
    · exact hw0.keep k0 fun _ _ hf => hf
    · have := hw0.lt hb; omega
end
theorem ains_self {α : Type} {l : List (Int × α)} (h : Asc l) {k : Int} {v : α} (hv : afind l k = some v) : ains l k v = l :=
  asc_ext (h.ins _ _) h fun j => by
    rw [afind_ins h]
    split
    · rename_i e; rw [e, hv]
    · rfl
theorem worn_eq {l : List (Int × Int)} (h : Asc l) (k : Int) {n : Int} (hn : 0 ≤ n) {wn : List (Int × Int)} (h1 : (∀ x ∈ l, ¬ (x.1 = k ∧ n < x.2)) → wn = ains l k n) (h2 : (∃ x ∈ l, x.1 = k ∧ n < x.2) → wn = l) :
    wn = ains l k (if n > (afind l k).getD 0 then n else (afind l k).getD 0) := by
  cases hf : afind l k with
  | none =>
    rw [h1 fun x hx hh => by rw [show k = x.1 from hh.1.symm, h.find (v := x.2) hx] at hf; cases hf]
    show _ = ains l k (if n > 0 then n else 0)
    congr 1
    split <;> omega
  | some o =>
    show _ = ains l k (if n > o then n else o)
    by_cases e : n < o
    · rw [h2 ⟨_, afind_mem hf, rfl, e⟩, if_neg (by omega), ains_self h hf]
    · rw [h1 fun x hx hh => by
        rw [show k = x.1 from hh.1.symm, h.find (v := x.2) hx] at hf
        cases hf
        exact e hh.2]
      congr 1
      split <;> omega
section
variable {H G K : Heap} {v v' w0 : RfV} {st st' : Sta} {x : RecT}
/-- All that a record does. -/
theorem rf_Do (h : RfAt H v st) (g : x.1 ≠ 1 → GoodR x) (hn9 : x.1 = 9 → 0 ≤ x.2.2.2.2.2.1) : WP (ref08_State_Do v x H) (DoQ H v st x) := by
  have m := rf_begin h x
  have hH1 : (H ++ [Blk.cells [.sl 3 v.1, .sl 3 v.2.1, .sl 1 v.2.2.1, .sl 2 v.2.2.2.1] .exact]).length = H.length + 1 := by simp
  unfold ref08_State_Do
  simp only [List.append_assoc, List.cons_append, List.nil_append, List.length_append, List.length_cons, List.length_nil, Nat.zero_add]
  generalize H ++ [Blk.cells [.sl 3 v.1, .sl 3 v.2.1, .sl 1 v.2.2.1, .sl 2 v.2.2.2.1] .exact, .cells [.int .i64 x.1, .int .i64 x.2.1, .int .i64 x.2.2.1, .int .i64 x.2.2.2.1, .int .i64 x.2.2.2.2.1, .int .i64 x.2.2.2.2.2.1] .exact, .cells [.sl 3 Sl.nil, .sl 3 Sl.nil, .sl 1 Sl.nil, .sl 2 Sl.nil] .exact] = G0 at m ⊢
  obtain ⟨i0, f1, f2, f3⟩ := rf_find m.s x.2.1
  have m1 := m.keep (Keep.app (fun _ => False) G0 [.cells (vC v) .exact])
  obtain ⟨G1, g1, gk⟩ := rf_get m1.s x.2.1 x.2.2.1
  have m2 := m1.keep gk
  refine wp_to m.rv (wp_to m.x1 (wp_to f1 (wp_to m1.rv (wp_to m1.x1 (wp_to m1.x2 (wp_to g1 (wp_to m2.x0 ?_)))))))
  clear m m1 f1 g1 gk
  refine wp_if (p := x.1 = 3) rfl (fun k3 => ?_) (fun k3 => ?_)
  · have hap : st.applyS x = st.moveS x.2.2.2.1 x.2.2.2.2.1 := by unfold Sta.applyS; rw [if_neg (by omega), if_pos k3]
    unfold Sta.moveS at hap
    have q1 := rf_refs m2.s x.2.2.2.1
    have m3 := m2.keep (Keep.app (fun _ => False) G1 [.cells (vC v) .exact])
    refine wp_to m2.rv (wp_to m2.x3 (wp_to q1 (wp_if (p := cnt st.lv x.2.2.2.1 = 0) (decide_eq_decide.2 Int.natCast_eq_zero) (fun e => ?_) (fun e => ?_))))
    · rw [if_pos e] at hap
      exact m3.err hap
    · rw [if_neg e] at hap
      have q2 := rf_refs m3.s x.2.2.2.2.1
      have m4 := m3.keep (Keep.app (fun _ => False) _ [.cells (vC v) .exact])
      refine wp_to m3.rv (wp_to m3.x4 (wp_to q2 (wp_if (p := 0 < cnt st.lv x.2.2.2.2.1) (decide_eq_decide.2 Int.natCast_pos) (fun e => ?_) (fun e => ?_))))
      · rw [if_pos e] at hap
        exact m4.err hap
      · rw [if_neg e] at hap
        refine wp_seq _ (do_move m4) ?_
        generalize G1 ++ [Blk.cells (vC v) .exact] ++ [.cells (vC v) .exact] = G4 at m4 ⊢
        rintro ⟨⟨s, ⟨⟩⟩, G5⟩ ⟨s', hs, hE, hn⟩
        cases hs
        have h2 := get_lt m4.b2
        have hE : Em (G4 ++ [.cells [] .exact]) ⟨some (G4.length, 0), 0, 0⟩ 3 G5 s (rowsOf ctL ((mv x.2.2.2.1 x.2.2.2.2.1 st.lv).map rlv)) := hE
        have hoff : ∀ b o, (⟨some (G4.length, 0), 0, 0⟩ : Sl).p = some (b, o) → b = G4.length := fun b o hh => by cases hh; rfl
        have m5 := m4.keep (Keep.app (fun _ => False) G4 [.cells [] .exact])
        have s5 : RfAt G5 v st := m5.s.keep hE.k fun b hb ⟨o, ho⟩ => by have := hoff b o ho; have := m4.o b hb; omega
        have c0 : G5[H.length]? = some (.cells (vC v) .exact) := hE.get m5.b0 fun o ho => by have := hoff _ o ho; omega
        have c2 : G5[H.length + 2]? = some (.cells nilV .exact) := hE.get m5.b2 fun o ho => by have := hoff _ o ho; omega
        have hk5 : Keep (fun _ => False) H G5 := ⟨by have := m5.k.len; have := hE.k.len; omega, fun b hb _ => by
          rw [hE.k.same b (by have := m5.k.len; omega) fun ⟨o, ho⟩ => by have := hoff _ o ho; omega]
          exact m5.k.same b hb fun hf => hf⟩
        have hw : wr G5 H.length 1 [.sl 3 s] = some (G5.set H.length (.cells (vC (v.1, s, v.2.2.1, v.2.2.2.1, ())) .exact)) := by rw [wr1_of c0 (by decide) (by simp [vC])]; rfl
        have hrd : rd (G5.set H.length (.cells (vC (v.1, s, v.2.2.1, v.2.2.2.1, ())) .exact)) (.agg [.sl 3, .sl 3, .sl 1, .sl 2]) H.length 0 = (some (v.1, s, v.2.2.1, v.2.2.2.1, ()) : Option RfV) := rd_agg_of (set_get (get_lt c0)) (by simp [vC]) rfl
        have hso : ∀ b o, s.p = some (b, o) → G4.length ≤ b := fun b o hp => by
          rcases hE.o _ hp with hh | ⟨o', hh⟩
          · simp only [List.length_append] at hh; omega
          · have := hoff _ _ hh; simp only at this; omega
        have kf : Keep (fun b => b = H.length) G5 (G5.set H.length (.cells (vC (v.1, s, v.2.2.1, v.2.2.2.1, ())) .exact)) := Keep.set _ _ _ rfl
        have s6 := s5.keep kf fun b hb e => by have := m4.o b hb; omega
        refine wp_to hw (wp_to hrd (ret_state (v' := (v.1, s, v.2.2.1, v.2.2.2.1, ())) (st' := ⟨st.sp, mv x.2.2.2.1 x.2.2.2.2.1 st.lv, st.bd, st.wn⟩) (H := H) (v0 := v) (B := H.length + 2) ?_ ?_ (by omega) (kf.get c2 (by omega)) rfl (fun b hb => ?_) fun G' hr => ?_))
        · exact ⟨s5.w.moved _ _, s6.sp, (Row.grown hE.g).keep kf fun b o hp e => by have := hso b o hp; omega, s6.bd, s6.wn, s6.spl, by rw [hn, mv_len], s6.bdl, s6.wnl⟩
        · exact ⟨by have := hk5.len; simp only [List.length_set]; omega, fun b hb _ => by rw [set_get' (by omega)]; exact hk5.same b hb fun hf => hf⟩
        · rcases hb with hb | ⟨o, ho⟩ | hb | hb
          · have hb' : blkV v b := .inl hb
            have := m4.o b hb'; exact ⟨.inl hb', by omega⟩
          · have := hso b o ho
            exact ⟨.inr (by omega), by omega⟩
          · have hb' : blkV v b := .inr (.inr (.inl hb))
            have := m4.o b hb'; exact ⟨.inl hb', by omega⟩
          · have hb' : blkV v b := .inr (.inr (.inr hb))
            have := m4.o b hb'; exact ⟨.inl hb', by omega⟩
        · unfold DoQ
          rw [hap]
          exact ⟨rfl, hr⟩
  refine wp_if (p := x.1 = 4) rfl (fun k4 => ?_) (fun k4 => ?_)
  · have hap : st.applyS x = st.openS x.2.1 x.2.2.2.2.2.1 [] := by unfold Sta.applyS; rw [if_pos k4]
    unfold Sta.openS at hap
    cases hf : afind st.sp x.2.1 with
    | some y =>
      obtain ⟨j, rfl, _⟩ := f3 y hf
      rw [hf, if_pos (show (some y).isSome = true from rfl)] at hap
      exact wp_t (decide_eq_true (Int.natCast_nonneg _)) (m2.err hap)
    | none =>
      rw [f2 hf]
      rw [hf, if_neg (by decide)] at hap
      refine wp_f rfl (wp_to m2.rv (wp_to m2.x1 (wp_to m2.x5 ?_)))
      exact wp_seq _ (rf_made m2.s false ((g (by omega)).k4 k4).1 ((g (by omega)).k4 k4).2) fun r hr => m2.ret hr hap
  refine wp_if (p := x.1 = 8) rfl (fun k8 => ?_) (fun k8 => ?_)
  · have hap : st.applyS x = (0, ⟨st.sp, st.lv, ains st.bd x.2.2.2.1 (), st.wn⟩) := by unfold Sta.applyS; rw [if_neg k4, if_neg k3, if_pos k8]
    refine wp_to m2.rv (wp_to m2.x3 (wp_seq _ (rf_bad m2.s ((g (by omega)).k8 k8)) fun r hr => m2.ret hr hap))
  refine wp_if (p := x.1 = 9) rfl (fun k9 => ?_) (fun k9 => ?_)
  · refine wp_to m2.rv (wp_to m2.x3 (wp_to m2.x5 (wp_seq _ (rf_worn m2.s ((g (by omega)).k9 k9)) fun r ⟨wn, h1, h2, hr⟩ => m2.ret hr ?_)))
    unfold Sta.applyS
    rw [if_neg k4, if_neg k3, if_neg k8, if_pos k9, worn_eq h.w.wn _ (hn9 k9) h1 h2]
  have hap0 := show st.applyS x = _ by unfold Sta.applyS; rw [if_neg k4, if_neg k3, if_neg k8, if_neg k9]
  cases hf : afind st.sp x.2.1 with
  | none =>
    rw [hf] at hap0
    rw [f2 hf]
    exact wp_t rfl (m2.err hap0)
  | some y =>
    obtain ⟨j, rfl, hj, hje⟩ := f3 y hf
    rw [hf] at hap0
    simp only at hap0
    have hlm : (st.sp.map rsp).length = st.sp.length := List.length_map _
    have hx : (st.sp.map rsp)[j]'(by omega) = rsp st.sp[j] := List.getElem_map _
    obtain ⟨b0, o0, r1, r2, _⟩ := Row.rd (cts := ctP) (rows := st.sp.map rsp) m2.s.sp (i := j) (by omega) (by decide)
    rw [hx, hje] at r2
    have hid := h.w.ids _ (afind_mem hf)
    have r2 : rd G1 (.agg [.int .i64, .int .i64, .bool]) b0 o0 = (some (x.2.1, y.1, y.2, ()) : Option (Int × Int × Bool × Unit)) := r2
    refine wp_f (decide_eq_false (Int.not_lt.2 (Int.natCast_nonneg _))) (wp_to m2.sp (wp_to r1 (wp_to r2 (wp_tmpB ?_))))
    have m3 := m2.keep (Keep.app (fun _ => False) G1 [.cells [.int .i64 x.2.1, .int .i64 y.1, .bool y.2] .exact])
    have t0 : (G1 ++ [Blk.cells [.int .i64 x.2.1, .int .i64 y.1, .bool y.2] .exact])[G1.length]? = some (.cells [.int .i64 x.2.1, .int .i64 y.1, .bool y.2] .exact) := by rw [tl_get0]; rfl
    refine wp_to m3.x0 (wp_if (p := x.1 = 1) rfl (fun k1 => ?_) (fun k1 => ?_))
    · rw [if_pos k1] at hap0
      refine wp_to m3.x2 (wp_if (p := x.2.2.1 < 0) rfl (fun e => ?_) (fun e => ?_))
      · rw [if_pos e] at hap0
        exact m3.err hap0
      · rw [if_neg e] at hap0
        refine wp_to m3.x2 (wp_to (rdI_of t0 rfl) (wp_if (p := y.1 ≤ x.2.2.1) rfl (fun e2 => ?_) (fun e2 => ?_)))
        · rw [if_pos e2] at hap0
          exact m3.err hap0
        · rw [if_neg e2] at hap0
          obtain ⟨w', K, u1, u2⟩ := rf_with m3.s (id := x.2.1) (p := x.2.2.1) (pl := x.2.2.2.1) (by have := hid.2.2; simp only at this; omega) hf
          exact wp_to m3.rv (wp_to m3.x1 (wp_to m3.x2 (wp_to m3.x3 (wp_to u1 (m3.ret u2 hap0)))))
    · rw [if_neg k1] at hap0
      refine wp_if (p := x.1 = 2) rfl (fun k2 => ?_) (fun k2 => ?_)
      · rw [if_pos k2] at hap0
        refine wp_c (fun e => ?_) (fun e => ?_)
        · have e : ¬ (afind (pgs st.lv x.2.1) x.2.2.1).isSome = true := by simpa using e
          rw [if_neg e] at hap0
          exact m3.err hap0
        · have e : (afind (pgs st.lv x.2.1) x.2.2.1).isSome = true := by simpa using e
          rw [if_pos e] at hap0
          have hp : 0 ≤ x.2.2.1 ∧ x.2.2.1 < 1024 := by
            rw [pgs_find h.w.lv] at e
            by_cases hp : 0 ≤ x.2.2.1 ∧ x.2.2.1 < 1024
            · exact hp
            · rw [if_neg hp] at e; cases e
          exact wp_to m3.rv (wp_to m3.x1 (wp_to m3.x2 (wp_seq _ (rf_trim m3.s x.2.1 hp) fun r hr => m3.ret hr hap0)))
      · rw [if_neg k2] at hap0
        refine wp_if (p := x.1 = 5) rfl (fun k5 => ?_) (fun k5 => ?_)
        · rw [if_pos k5] at hap0
          exact wp_to m3.rv (wp_to m3.x1 (wp_seq _ (rf_dropped m3.s x.2.1) fun r hr => m3.ret hr hap0))
        · rw [if_neg k5] at hap0
          refine wp_if (p := x.1 = 6) rfl (fun k6 => ?_) (fun k6 => ?_)
          · rw [if_pos k6] at hap0
            unfold Sta.openS at hap0
            obtain ⟨i1, q1, q2, q3⟩ := rf_find m3.s x.2.2.2.2.1
            have m4 := m3.keep (Keep.app (fun _ => False) _ [.cells (vC v) .exact])
            refine wp_to m3.rv (wp_to m3.x4 (wp_to q1 ?_))
            cases hf2 : afind st.sp x.2.2.2.2.1 with
            | some z =>
              obtain ⟨j2, rfl, _⟩ := q3 z hf2
              rw [hf2, if_pos (show (some z).isSome = true from rfl)] at hap0
              exact wp_t (decide_eq_true (Int.natCast_nonneg _)) (m4.err hap0)
            | none =>
              rw [q2 hf2]
              rw [hf2, if_neg (by decide)] at hap0
              have t1 : (G1 ++ [Blk.cells [.int .i64 x.2.1, .int .i64 y.1, .bool y.2] .exact] ++ [.cells (vC v) .exact])[G1.length]? = some (.cells [.int .i64 x.2.1, .int .i64 y.1, .bool y.2] .exact) := by rw [List.getElem?_append_left (get_lt t0)]; exact t0
              refine wp_f rfl (wp_to m4.rv (wp_to m4.x4 (wp_to (rdI_of t1 rfl) (wp_seq _ (rf_made m4.s false ((g (by omega)).k6 k6) hid.2.2) ?_))))
              rintro ⟨⟨w0, ⟨⟩⟩, G5⟩ hr
              have hr : RRes _ v G5 w0 ⟨ains st.sp x.2.2.2.2.1 (y.1, false), st.lv, st.bd, st.wn⟩ := hr
              have m5 := m4.keep hr.k
              have hw : wr (G5 ++ [Blk.cells [.sl 3 Sl.nil, .sl 3 Sl.nil, .sl 1 Sl.nil, .sl 2 Sl.nil] .exact]) G5.length 0 [.sl 3 w0.1, .sl 3 w0.2.1, .sl 1 w0.2.2.1, .sl 2 w0.2.2.2.1] = some (G5 ++ [.cells (vC w0) .exact]) := by
                rw [wr_t0, wr_c0 _ _ _ _ (by simp)]; rfl
              refine wp_to hw (wp_seq _ (do_copy m5 rfl rfl hr.s fun b hb => (hr.n b hb).imp_right fun hh => ?_) ?_)
              · have := get_lt m4.b2; omega
              rintro ⟨⟨⟩, G6⟩ ⟨w, m6, hw6, hB6, hn6⟩
              have hrd : rd G6 (.agg [.sl 3, .sl 3, .sl 1, .sl 2]) G5.length 0 = (some w : Option RfV) := rd_agg_of hB6 (by simp [vC]) rfl
              refine wp_to hrd (ret_state (v0 := v) (H := H) (B := H.length + 2) hw6 m6.k (by omega) m6.b2 rfl (fun b hb => ?_) fun G' hr' => ?_)
              · rcases (hn6 b hb).1 with hh | hh
                · have := m6.o b hh; exact ⟨.inl hh, by omega⟩
                · exact ⟨.inr (by omega), by omega⟩
              · unfold DoQ
                rw [hap0]
                exact ⟨rfl, hr'⟩
          · rw [if_neg k6] at hap0
            exact wp_to m3.rv (wp_to (rdI_of t0 rfl) (wp_to (rdI_of t0 rfl) (wp_seq _ (rf_made m3.s true ⟨hid.1, hid.2.1⟩ hid.2.2) fun r hr => m3.ret hr hap0)))
end
end Ev
set_option linter.unusedSimpArgs false
set_option linter.unusedVariables false
namespace Ev
open Go (IntKind)

theorem wp_ite {α : Type} {p : Prop} [Decidable p] {a b : Option α} {Q : α → Prop} (h : p) (k : WP a Q) : WP (if p then a else b) Q := by rw [if_pos h]; exact k
section
variable {H G K : Heap} {v v' w0 : RfV} {st st' : Sta} {x : RecT}
theorem DoM.rx (m : DoM H v st x G) : rd G (.agg [.int .i64, .int .i64, .int .i64, .int .i64, .int .i64, .int .i64]) (H.length + 1) 0 = (some x : Option RecT) := rd_agg_of m.b1 (by simp) (by obtain ⟨a, b, c, d, e, f, ⟨⟩⟩ := x; rfl)
theorem chk_nine {x : RecT} (h : chkR x = true) (k9 : x.1 = 9) : 0 ≤ x.2.2.2.2.2.1 := by
  unfold chkR at h
  simp only [k9, inAll, inB] at h
  simp at h
  omega
theorem rf_Apply (h : RfAt H v st) (x : RecT) : WP (ref08_State_Apply v x H) fun r => r.1.2.1 = (st.doS x).1 ∧ RRes H v r.2 r.1.1 (st.doS x).2 := by
  have m := rf_begin h x
  unfold ref08_State_Apply Sta.doS
  simp only [List.append_assoc, List.cons_append, List.nil_append, List.length_append, List.length_cons, List.length_nil, Nat.zero_add]
  generalize H ++ [Blk.cells [.sl 3 v.1, .sl 3 v.2.1, .sl 1 v.2.2.1, .sl 2 v.2.2.2.1] .exact, .cells [.int .i64 x.1, .int .i64 x.2.1, .int .i64 x.2.2.1, .int .i64 x.2.2.2.1, .int .i64 x.2.2.2.2.1, .int .i64 x.2.2.2.2.2.1] .exact, .cells [.sl 3 Sl.nil, .sl 3 Sl.nil, .sl 1 Sl.nil, .sl 2 Sl.nil] .exact] = G0 at m ⊢
  have hc : ref07_Check (x.1, x.2.1, x.2.2.1, x.2.2.2.1, x.2.2.2.2.1, x.2.2.2.2.2.1, ()) = some (chkR x, ()) := by
    obtain ⟨a, b, c, d, e, f, ⟨⟩⟩ := x
    exact ref07_check_eq _
  refine wp_to m.rx (wp_to hc (wp_c (fun e => ?_) (fun e => ?_)))
  · have e : ¬ chkR x = true := by simpa using e
    rw [if_neg e]
    exact wp_to m.rv (ret_state (v0 := v) m.s m.k (by omega) m.b2 rfl (fun b hb => ⟨.inl hb, by have := m.o b hb; omega⟩) fun G' hr => ⟨rfl, hr⟩)
  · have e : chkR x = true := by simpa using e
    rw [if_pos e]
    have hx : ((x.1, x.2.1, x.2.2.1, x.2.2.2.1, x.2.2.2.2.1, x.2.2.2.2.2.1, ()) : RecT) = x := by obtain ⟨a, b, c, d, e, f, ⟨⟩⟩ := x; rfl
    refine wp_to m.rv (wp_to m.rx ?_)
    rw [hx]
    refine wp_seq _ (rf_Do m.s (fun _ => chk_good e) (chk_nine e)) ?_
    rintro ⟨⟨v', e', ⟨⟩⟩, G1⟩ ⟨he, hr⟩
    have hr : RRes G0 v G1 v' (st.applyS x).2 := hr
    have he : e' = (st.applyS x).1 := he
    subst he
    refine ret_state (v0 := v) hr.s (m.k.trans hr.k) (by omega) (hr.k.get m.b2 fun hf => hf) rfl (fun b hb => ?_) fun G' hr' => ⟨rfl, hr'⟩
    rcases hr.n b hb with hh | hh
    · exact ⟨.inl hh, by have := m.o b hh; omega⟩
    · have := get_lt m.b2
      exact ⟨.inr (by omega), by omega⟩
end
section
variable {H G K : Heap} {v v' w0 : RfV} {st st' : Sta} {x : RecT} {s0 : Sl}
theorem dump_len1 (st : Sta) (id : Int) (n : Nat) : ((pgs (st.lv.take n) id).map fun y => (rc 1 id y.1 y.2 0 0)).length ≤ n := by
  rw [List.length_map, pgs_len]
  have := List.length_filter_le (fun x : Int × Int => decide (x.1 / 1024 = id)) (st.lv.take n)
  rw [List.length_take] at this
  omega
/-- The pages of one space. -/
theorem rdump_pages (h : RfAt H v st) {t : Heap} (ht : t[0]? = some (.cells (vC v) .exact)) (hs0 : ∀ a, s0.p = some a → H.length < a.1) {s : Sl} {cs : List C} (hE : Em (H ++ t) s0 6 K s cs) {H4 : Heap} {id q : Int} {b : Bool} (hb4 : K[H4.length]? = some (.cells [.int .i64 id, .int .i64 q, .bool b] .exact)) (hb5 : ∀ o, s.p ≠ some (H4.length, o))
    (hn : s.len ≤ 20000) : WP (loopW (ref08_State_Dump.s1 H H4) (s, 0, ()) K) fun r => ∃ s', r.1 = (s', ()) ∧ Em (H ++ t) s0 6 r.2 s' (cs ++ rowsOf ctR ((pgs st.lv id).map fun y => (rc 1 id y.1 y.2 0 0))) ∧ s'.len = s.len + (pgs st.lv id).length ∧ r.2[H4.length]? = some (.cells [.int .i64 id, .int .i64 q, .bool b] .exact) := by
  have hmany := h.w.many
  have hlm : (st.lv.map rlv).length = st.lv.length := List.length_map _
  refine wp_mono (wp_rise st.lv.length (fun i y G => ∃ s', y = (s', (i : Int), ()) ∧ Em (H ++ t) s0 6 G s' (cs ++ rowsOf ctR ((pgs (st.lv.take i) id).map fun y => (rc 1 id y.1 y.2 0 0))) ∧ s'.len = s.len + (pgs (st.lv.take i) id).length ∧ G[H4.length]? = some (.cells [.int .i64 id, .int .i64 q, .bool b] .exact) ∧ ∀ o, s'.p ≠ some (H4.length, o))
    (fun y G => ∃ s', y = (s', ()) ∧ Em (H ++ t) s0 6 G s' (cs ++ rowsOf ctR ((pgs st.lv id).map fun y => (rc 1 id y.1 y.2 0 0))) ∧ s'.len = s.len + (pgs st.lv id).length ∧ G[H4.length]? = some (.cells [.int .i64 id, .int .i64 q, .bool b] .exact)) ?_ ?_ ?_) (fun r hr => hr)
  · rintro i y G hi ⟨s, rfl, hE, hn, hb, hso⟩
    obtain ⟨hG, hbox⟩ := h.box t ht hs0 hE
    have hv : rdSl 3 G H.length 1 = some v.2.1 := rdSl_of hbox rfl
    have hx : (st.lv.map rlv)[i]'(by omega) = rlv st.lv[i] := List.getElem_map _
    obtain ⟨b0, o0, r1, r2, _⟩ := Row.rd (cts := ctL) (rows := st.lv.map rlv) hG.lv (i := i) (by omega) (by decide)
    rw [hx] at r2
    have hdl := dump_len1 st id i
    rw [List.length_map] at hdl
    rw [pgs_take st.lv id hi]
    generalize st.lv[i] = y at r2 ⊢
    have hw := wrap_succ (show i < 9223372036854775807 by omega)
    have hb' : (G ++ [Blk.cells [.int .i64 (y.1 / 1024), .int .i64 (y.1 % 1024), .int .i64 y.2] .exact])[H4.length]? = some (.cells [.int .i64 id, .int .i64 q, .bool b] .exact) := by rw [List.getElem?_append_left (get_lt hb)]; exact hb
    have t0 : (G ++ [Blk.cells [.int .i64 (y.1 / 1024), .int .i64 (y.1 % 1024), .int .i64 y.2] .exact])[G.length]? = some (.cells [.int .i64 (y.1 / 1024), .int .i64 (y.1 % 1024), .int .i64 y.2] .exact) := by rw [tl_get0]; rfl
    unfold ref08_State_Dump.s1
    refine wp_to hv (wp_t (decide_eq_true (by rw [h.lvl]; exact Int.ofNat_lt.2 hi)) (wp_to hv (wp_to r1 (wp_to r2 (wp_tmp (wp_to (rdI_of t0 rfl) (wp_to (rdI_of hb' rfl) (wp_if (p := y.1 / 1024 = id) rfl (fun e => ?_) (fun e => ?_)))))))))
    · refine wp_to (rdI_of hb' rfl) (wp_to (rdI_of t0 rfl) (wp_to (rdI_of t0 rfl) ?_))
      refine wp_appk (hE.push _) rfl (by decide) (by omega) fun s' G' hE' hn' hk' hl' => wp_some ⟨s', ?_, ?_, ?_, hk' _ _ hb' hso, fun o ho => ?_⟩
      · simp only [hw]
      · rw [if_pos e, List.map_append, rowsOf_append', ← List.append_assoc]; exact hE'
      · rw [if_pos e, List.length_append, hn', hn]; rfl
      · have h1 := hl' _ _ ho
        have h2 := get_lt hb'
        simp only [List.length_append, List.length_cons, List.length_nil] at h1 h2
        omega
    · refine wp_some ⟨s, ?_, ?_, ?_, hb', hso⟩
      · simp only [hw]
      · rw [if_neg e, List.append_nil]; exact hE.push _
      · rw [if_neg e, List.append_nil]; exact hn
  · rintro y G ⟨s, rfl, hE, hn, hb, hso⟩
    rw [List.take_length] at hE hn
    obtain ⟨hG, hbox⟩ := h.box t ht hs0 hE
    have hv : rdSl 3 G H.length 1 = some v.2.1 := rdSl_of hbox rfl
    unfold ref08_State_Dump.s1
    exact wp_to hv (wp_f (decide_eq_false (by rw [h.lvl]; exact Int.lt_irrefl _)) (wp_some ⟨s, rfl, hE, hn, hb⟩))
  · exact ⟨s, rfl, by simpa [pgs, rowsOf] using hE, by simp [pgs], hb4, hb5⟩
theorem rdump_space (h : RfAt H v st) {t : Heap} (ht : t[0]? = some (.cells (vC v) .exact)) (hs0 : ∀ a, s0.p = some a → H.length < a.1) {s : Sl} {cs : List C} (hE : Em (H ++ t) s0 6 K s cs) (hn : s.len ≤ 20000 - 1100) {i : Nat} (hi : i < st.sp.length) :
    WP (ref08_State_Dump.s2 H (s, (i : Int), ()) K) fun r => Sum.elim (fun y => ∃ s', y = (s', ((i + 1 : Nat) : Int), ()) ∧ Em (H ++ t) s0 6 r.2 s' (cs ++ rowsOf ctR (dumpS st.lv st.sp[i])) ∧ s'.len = s.len + (dumpS st.lv st.sp[i]).length) (fun _ => False) r.1 := by
  obtain ⟨hG, hbox⟩ := h.box t ht hs0 hE
  have hlm : (st.sp.map rsp).length = st.sp.length := List.length_map _
  have hx : (st.sp.map rsp)[i]'(by omega) = rsp st.sp[i] := List.getElem_map _
  have hv : rdSl 3 K H.length 0 = some v.1 := rdSl_of hbox rfl
  obtain ⟨b0, o0, r1, r2, _⟩ := Row.rd (cts := ctP) (rows := st.sp.map rsp) hG.sp (i := i) (by omega) (by decide)
  rw [hx] at r2
  generalize st.sp[i] = y at r2 ⊢
  obtain ⟨id, q, b⟩ := y
  have r2 : rd K (.agg [.int .i64, .int .i64, .bool]) b0 o0 = (some (id, q, b, ()) : Option (Int × Int × Bool × Unit)) := r2
  have hfew := h.w.few
  have hpl := h.w.pgl id
  have hw := wrap_succ (show i < 9223372036854775807 by omega)
  have hsl : ∀ o, s.p ≠ some (K.length, o) := fun o hp => by have := hE.g.lt hp; simp only at this; omega
  have hds : (dumpS st.lv (id, q, b)) = [rc 4 id 0 0 0 q] ++ (pgs st.lv id).map (fun y => (rc 1 id y.1 y.2 0 0)) ++ (if b = true then [rc 7 id 0 0 0 0] else []) := by unfold dumpS; simp
  have t0 : (K ++ [Blk.cells [.int .i64 id, .int .i64 q, .bool b] .exact])[K.length]? = some (.cells [.int .i64 id, .int .i64 q, .bool b] .exact) := by rw [tl_get0]; rfl
  unfold ref08_State_Dump.s2
  refine wp_to hv (wp_t (decide_eq_true (by rw [h.spl]; exact Int.ofNat_lt.2 hi)) (wp_to hv (wp_to r1 (wp_to r2 (wp_tmpB (wp_to (rdI_of t0 rfl) (wp_to (rdI_of t0 rfl) ?_)))))))
  refine wp_appk (hE.push _) rfl (by decide) (by omega) fun s1 G1 hE1 hn1 hk1 hl1 => ?_
  have t1 := hk1 _ _ t0 hsl
  refine wp_seq _ (rdump_pages h ht hs0 hE1 t1 (fun o ho => by have h1 := hl1 _ _ ho; simp only [List.length_append, List.length_cons, List.length_nil] at h1; omega) (by omega)) ?_
  rintro ⟨⟨s2, ⟨⟩⟩, G2⟩ ⟨s', hs, hE2, hn2, t2⟩
  cases hs
  refine wp_to (rdB_of t2 rfl) ?_
  have hE2 : Em (H ++ t) s0 6 G2 s2 (cs ++ Tup.mk ctR (rc 4 id 0 0 0 q) ++ rowsOf ctR ((pgs st.lv id).map fun y => (rc 1 id y.1 y.2 0 0))) := hE2
  have hn2 : s2.len = s1.len + (pgs st.lv id).length := hn2
  rw [hds]
  cases b with
  | true =>
    refine wp_t rfl (wp_to (rdI_of t2 rfl) ?_)
    refine wp_app hE2 rfl (by decide) (by omega) fun s3 G3 hE3 hn3 => wp_some ⟨s3, ?_, ?_, ?_⟩
    · simp only [hw]
    · rw [rowsOf_append', rowsOf_append', ← List.append_assoc, ← List.append_assoc]; exact hE3
    · simp only [List.length_append, List.length_map, List.length_cons, List.length_nil, if_true]; omega
  | false =>
    refine wp_f rfl (wp_some ⟨s2, ?_, ?_, ?_⟩)
    · simp only [hw]
    · rw [if_neg (by decide), List.append_nil, rowsOf_append', ← List.append_assoc]; exact hE2
    · rw [if_neg (by decide), List.append_nil]
      simp only [List.length_append, List.length_map, List.length_cons, List.length_nil]; omega
theorem sumS_le (lv : List (Int × Int)) (w : SaW st) (i : Nat) : ((st.sp.take i).map (dumpS st.lv)).flatten.length ≤ 15450 := by
  rw [List.length_flatten, List.map_map]
  have := one_more (l := (st.sp.map (List.length ∘ dumpS st.lv))) (i := i) (fun x hx => by
    obtain ⟨y, hy, rfl⟩ := List.mem_map.1 hx
    exact dumpS_len w y) (by rw [List.length_map]; exact w.few)
  rwa [← List.map_take] at this
theorem flat_snoc {α β : Type} (f : α → List β) (l : List α) (x : α) : ((l ++ [x]).map f).flatten = (l.map f).flatten ++ f x := by simp
theorem rf_dump (h : RfAt H v st) : WP (ref08_State_Dump v H) fun r => ∃ s, r.1 = (s, ()) ∧ Row r.2 6 s (rowsOf ctR (dumpL st)) ∧ s.len = (dumpL st).length ∧ Keep (fun _ => False) H r.2 := by
  have hfew := h.w.few
  have hfb := h.w.fewb
  have hfw := h.w.feww
  generalize ht : [Blk.cells [.sl 3 v.1, .sl 3 v.2.1, .sl 1 v.2.2.1, .sl 2 v.2.2.2.1] .exact, .cells [] .exact] = t
  have ht0 : t[0]? = some (.cells (vC v) .exact) := by rw [← ht]; rfl
  have ht3 : t[1]? = some (.cells [] .exact) := by rw [← ht]; rfl
  have htl : t.length = 2 := by rw [← ht]; rfl
  have hs0 : ∀ a, (⟨some (H.length + 1, 0), 0, 0⟩ : Sl).p = some a → H.length < a.1 := fun a ha => by cases ha; simp only; omega
  have h0 : Em (H ++ t) ⟨some (H.length + 1, 0), 0, 0⟩ 6 (H ++ t) ⟨some (H.length + 1, 0), 0, 0⟩ [] := Em.start ⟨rfl, rfl, fun hh => (by cases hh), fun a ha => by cases ha; exact ⟨rfl, .inr (by rw [tl_get1]; exact ht3)⟩⟩
  unfold ref08_State_Dump
  simp only [List.append_assoc, List.cons_append, List.nil_append, List.length_append, List.length_cons, List.length_nil, Nat.zero_add]
  rw [ht]
  refine wp_seq _ (wp_rise st.sp.length (fun i y G => ∃ s, y = (s, (i : Int), ()) ∧ Em (H ++ t) ⟨some (H.length + 1, 0), 0, 0⟩ 6 G s (rowsOf ctR ((st.sp.take i).map (dumpS st.lv)).flatten) ∧ s.len = ((st.sp.take i).map (dumpS st.lv)).flatten.length)
    (fun y G => ∃ s, y = (s, ()) ∧ Em (H ++ t) ⟨some (H.length + 1, 0), 0, 0⟩ 6 G s (rowsOf ctR (st.sp.map (dumpS st.lv)).flatten) ∧ s.len = (st.sp.map (dumpS st.lv)).flatten.length) ?_ ?_ ?_) ?_
  · rintro i y G hi ⟨s, rfl, hE, hn⟩
    have := sumS_le st.lv h.w i
    refine wp_mono (rdump_space h ht0 hs0 hE (by omega) hi) fun r hr => ?_
    obtain ⟨r, G'⟩ := r
    cases r with
    | inl y =>
      obtain ⟨s', rfl, e1, e2⟩ := hr
      refine ⟨s', rfl, ?_, ?_⟩
      · rw [take_snoc hi, flat_snoc, rowsOf_append']; exact e1
      · rw [take_snoc hi, flat_snoc, List.length_append, e2, hn]
    | inr x => exact hr.elim
  · rintro y G ⟨s, rfl, hE, hn⟩
    rw [List.take_length] at hE hn
    obtain ⟨_, hbox⟩ := h.box t ht0 hs0 hE
    have hv : rdSl 3 G H.length 0 = some v.1 := rdSl_of hbox rfl
    unfold ref08_State_Dump.s2
    exact wp_to hv (wp_f (decide_eq_false (by rw [h.spl]; exact Int.lt_irrefl _)) (wp_some ⟨s, rfl, hE, hn⟩))
  · exact ⟨_, rfl, h0, rfl⟩
  rintro ⟨⟨s1, ⟨⟩⟩, G1⟩ ⟨s', hs, hE1, hn1⟩
  cases hs
  have hl1 := sumS_le st.lv h.w st.sp.length
  rw [List.take_length] at hl1
  obtain ⟨A, hA⟩ : ∃ A, A = (st.sp.map (dumpS st.lv)).flatten := ⟨_, rfl⟩
  rw [← hA] at hE1 hn1 hl1
  refine wp_seq _ (wp_rise st.bd.length (fun i y G => ∃ s, y = (s, (i : Int), ()) ∧ Em (H ++ t) ⟨some (H.length + 1, 0), 0, 0⟩ 6 G s (rowsOf ctR (A ++ (st.bd.take i).map fun y => (rc 8 0 0 y.1 0 0))) ∧ s.len = A.length + i)
    (fun y G => ∃ s, y = (s, ()) ∧ Em (H ++ t) ⟨some (H.length + 1, 0), 0, 0⟩ 6 G s (rowsOf ctR (A ++ st.bd.map fun y => (rc 8 0 0 y.1 0 0))) ∧ s.len = A.length + st.bd.length) ?_ ?_ ?_) ?_
  · rintro i y G hi ⟨s, rfl, hE, hn⟩
    obtain ⟨hG, hbox⟩ := h.box t ht0 hs0 hE
    have hv : rdSl 1 G H.length 2 = some v.2.2.1 := rdSl_of hbox rfl
    have hll : (st.bd.map Prod.fst).length = st.bd.length := List.length_map _
    have hx : (st.bd.map Prod.fst)[i]'(by omega) = st.bd[i].1 := List.getElem_map _
    obtain ⟨b0, o0, _, r1, r2⟩ := hG.bd.int (i := i) (by omega)
    rw [hx] at r2
    have hw := wrap_succ (show i < 9223372036854775807 by omega)
    unfold ref08_State_Dump.s3
    refine wp_to hv (wp_t (decide_eq_true (by rw [h.bdl]; exact Int.ofNat_lt.2 hi)) (wp_to hv (wp_to r1 (wp_to r2 ?_))))
    refine wp_app hE rfl (by decide) (by omega) fun s' G' hE' hn' => wp_some ⟨s', ?_, ?_, ?_⟩
    · simp only [hw]
    · rw [take_snoc hi, List.map_append, ← List.append_assoc, rowsOf_append']; exact hE'
    · omega
  · rintro y G ⟨s, rfl, hE, hn⟩
    rw [List.take_length] at hE
    obtain ⟨_, hbox⟩ := h.box t ht0 hs0 hE
    have hv : rdSl 1 G H.length 2 = some v.2.2.1 := rdSl_of hbox rfl
    unfold ref08_State_Dump.s3
    exact wp_to hv (wp_f (decide_eq_false (by rw [h.bdl]; exact Int.lt_irrefl _)) (wp_some ⟨s, rfl, hE, hn⟩))
  · exact ⟨s1, rfl, by simpa using hE1, by simpa using hn1⟩
  rintro ⟨⟨s2, ⟨⟩⟩, G2⟩ ⟨s', hs, hE2, hn2⟩
  cases hs
  refine wp_seq _ (wp_rise st.wn.length (fun i y G => ∃ s, y = (s, (i : Int), ()) ∧ Em (H ++ t) ⟨some (H.length + 1, 0), 0, 0⟩ 6 G s (rowsOf ctR (A ++ (st.bd.map fun y => (rc 8 0 0 y.1 0 0)) ++ (st.wn.take i).map fun y => (rc 9 0 0 y.1 0 y.2))) ∧ s.len = A.length + st.bd.length + i)
    (fun y G => ∃ s, y = (s, ()) ∧ Em (H ++ t) ⟨some (H.length + 1, 0), 0, 0⟩ 6 G s (rowsOf ctR (A ++ (st.bd.map fun y => (rc 8 0 0 y.1 0 0)) ++ st.wn.map fun y => (rc 9 0 0 y.1 0 y.2))) ∧ s.len = A.length + st.bd.length + st.wn.length) ?_ ?_ ?_) ?_
  · rintro i y G hi ⟨s, rfl, hE, hn⟩
    obtain ⟨hG, hbox⟩ := h.box t ht0 hs0 hE
    have hv : rdSl 2 G H.length 3 = some v.2.2.2.1 := rdSl_of hbox rfl
    have hlm : (st.wn.map rwn).length = st.wn.length := List.length_map _
    have hx : (st.wn.map rwn)[i]'(by omega) = rwn st.wn[i] := List.getElem_map _
    obtain ⟨b0, o0, r1, r2⟩ := row_int (cts := ctW) (rows := st.wn.map rwn) hG.wn (i := i) (by omega) (by decide) (j := 0) (n := st.wn[i].1) (by decide) (by rw [hx]; rfl)
    obtain ⟨b1, o1, r3, r4⟩ := row_int (cts := ctW) (rows := st.wn.map rwn) hG.wn (i := i) (by omega) (by decide) (j := 1) (n := st.wn[i].2) (by decide) (by rw [hx]; rfl)
    rw [r1] at r3
    cases r3
    have hw := wrap_succ (show i < 9223372036854775807 by omega)
    have a0 : arrAt 1 2 (b0, o0) 0 = some (b0, o0 + 0) := rfl
    have a1 : arrAt 1 2 (b0, o0) 1 = some (b0, o0 + 1) := rfl
    unfold ref08_State_Dump.s4
    refine wp_to hv (wp_t (decide_eq_true (by rw [h.wnl]; exact Int.ofNat_lt.2 hi)) (wp_to hv (wp_to r1 (wp_to a0 (wp_to r2 (wp_to hv (wp_to r1 (wp_to a1 (wp_to r4 ?_)))))))))
    refine wp_app hE rfl (by decide) (by omega) fun s' G' hE' hn' => wp_some ⟨s', ?_, ?_, ?_⟩
    · simp only [hw]
    · rw [take_snoc hi, List.map_append, ← List.append_assoc, rowsOf_append']; exact hE'
    · omega
  · rintro y G ⟨s, rfl, hE, hn⟩
    rw [List.take_length] at hE
    obtain ⟨_, hbox⟩ := h.box t ht0 hs0 hE
    have hv : rdSl 2 G H.length 3 = some v.2.2.2.1 := rdSl_of hbox rfl
    unfold ref08_State_Dump.s4
    exact wp_to hv (wp_f (decide_eq_false (by rw [h.wnl]; exact Int.lt_irrefl _)) (wp_some ⟨s, rfl, hE, hn⟩))
  · exact ⟨s2, rfl, by simpa using hE2, by simpa using hn2⟩
  rintro ⟨⟨s3, ⟨⟩⟩, G3⟩ ⟨s', hs, hE3, hn3⟩
  cases hs
  refine wp_some ⟨s3, rfl, ?_, ?_, ⟨?_, fun b hb _ => ?_⟩⟩
  · unfold dumpL
    rw [← hA]
    exact Row.grown hE3.g
  · unfold dumpL
    rw [← hA, List.length_append, List.length_append, List.length_map, List.length_map]
    exact hn3
  · have := hE3.k.len
    simp only [List.length_append] at this
    simp only; omega
  · simp only
    rw [hE3.k.same b (by simp only [List.length_append]; omega) fun ⟨o, ho⟩ => by have := hs0 _ ho; simp only at this; omega, List.getElem?_append_left hb]
end
end Ev
