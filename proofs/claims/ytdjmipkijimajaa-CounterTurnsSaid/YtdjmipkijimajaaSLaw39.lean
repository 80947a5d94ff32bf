/- Chapter 39: what the laws share; a number that rises. -/
import Derived.Test.YtdjmipkijimajaaGLaw39
import Derived.Test.YtdjmipkijimajaaSGeo
import Derived.Test.YtdjmipkijimajaaSCounterJ
namespace Ev
open Go (IntKind)

theorem I.alive {a : NdA} {s : Nd} {k : Ck} {W : Int} (i : I a s k W) : I a s { k with dead := false } W := ⟨i.j, i.ex, i.free, i.next, i.w, i.turn, rfl⟩
theorem over_cuts (a : NdA) (s : Nd) (k : Ck) (m : Int) : (k.over a s m).2.1.cuts = s.cuts := by
  unfold Ck.over
  have he : (s.erased a k.other).cuts = s.cuts := by
    unfold Nd.erased
    split
    · split <;> rfl
    · rfl
  split
  · exact he
  · split <;> exact he
theorem raise_cuts (a : NdA) (s : Nd) (k : Ck) (m : Int) : (k.raise a s m).2.1.cuts = s.cuts := by
  unfold Ck.raise
  split
  · split <;> rfl
  · exact over_cuts a s k m
theorem raise_calm_e {a : NdA} {s : Nd} (h : s.cuts = []) (k : Ck) (m : Int) : (k.raise a s m).1 = 0 := by
  have hc := cutNow_nil h
  have he : (s.erased a k.other).cutNow = none := cutNow_nil (by
    unfold Nd.erased
    rw [hc]; exact h)
  unfold Ck.raise Ck.over
  rw [hc, he]
  split <;> simp

section
variable {H : Heap} {a : NdA} {s : Nd} {c : Nat} {k : Ck} {D W : Int}

/-- A number above, on a chip without cuts. -/
theorem raise_calm (h : NdAt H a s) (hk : CkAt H c a k) (i : I a s k W) (f : Fit a s D) (hD : D + 2 < 1000000) (ho : s.off = false) (hcu : s.cuts = []) {m : Int} (hm : k.n < m ∧ m ≤ 1073741824) (hW : W + 1 < 4294967296) :
    ∃ H' k', counter_Counter_Raise (some (c, 0)) m H = some ((0, ()), H') ∧ NdAt H' a (k.raise a s m).2.1 ∧ CkAt H' c a k' ∧ I a (k.raise a s m).2.1 k' (W + 1) ∧ k' = { (k.raise a s m).2.2 with dead := false } ∧ k'.n = m ∧ (k.raise a s m).2.1.off = false ∧ Fit a (k.raise a s m).2.1 (D + 2) ∧ (k.raise a s m).2.1.cuts = [] ∧ Keep (fun x => a.fp x ∨ x = c) H H' := by
  have hn0 := i.j.n0
  obtain ⟨H', q1, q2, q3, q4⟩ := raise_new h hk f (by omega) ho i.dead (m := m) (by omega) hm.1 (fun t => by have := i.w t; omega) i.free (by have := i.next; have := f.sz; omega)
  have he := raise_calm_e (a := a) hcu k m
  rcases raise_step i f hD ho hm hW with d | d
  · rw [he] at q1 q3
    have e0 : decide ((0 : Int) = 51) = false := rfl
    rw [e0] at q3
    exact ⟨H', _, q1, q2, q3, d.i.alive, rfl, d.n, d.off, d.fit, by rw [raise_cuts]; exact hcu, q4⟩
  · have := d.e
    rw [he] at this
    exact absurd this (by decide)
theorem step_calm (h : NdAt H a s) (hk : CkAt H c a k) (i : I a s k W) (f : Fit a s D) (hD : D + 2 < 1000000) (ho : s.off = false) (hcu : s.cuts = []) (hm : k.n < 1073741824) (hW : W + 1 < 4294967296) :
    ∃ H' k', counter_Counter_Step (some (c, 0)) H = some ((0, ()), H') ∧ NdAt H' a (k.raise a s (k.n + 1)).2.1 ∧ CkAt H' c a k' ∧ I a (k.raise a s (k.n + 1)).2.1 k' (W + 1) ∧ k' = { (k.raise a s (k.n + 1)).2.2 with dead := false } ∧ k'.n = k.n + 1 ∧ (k.raise a s (k.n + 1)).2.1.off = false ∧ Fit a (k.raise a s (k.n + 1)).2.1 (D + 2) ∧ (k.raise a s (k.n + 1)).2.1.cuts = [] ∧ Keep (fun x => a.fp x ∨ x = c) H H' := by
  have hn0 := i.j.n0
  obtain ⟨H', k', q1, q2⟩ := raise_calm h hk i f hD ho hcu (m := k.n + 1) (by omega) hW
  refine ⟨H', k', ?_, q2⟩
  rw [step_eq hk (by omega), q1]; rfl
end

theorem new_fit {a : NdA} {cuts : List Cut} (hcu : ∀ x ∈ cuts, 0 ≤ x.2.2.1 ∧ x.2.2.1 < 256) (hsz : 2 ≤ a.B ∧ 1 ≤ a.P ∧ a.P ≤ 1000 ∧ a.S ≤ 1000) : Fit a (Nd.new cuts [] []) 0 :=
  ⟨rfl, fun _ => rfl, ⟨Int.le_refl _, Int.le_refl _⟩, fun _ => ⟨Int.le_refl _, Int.le_refl _⟩, hcu, fun _ _ => .inl rfl, by decide, hsz⟩
theorem new_J {a : NdA} (cuts : List Cut) : J a (Nd.new cuts [] []) 0 0 :=
  ⟨fun b p _ _ m w h => (by rw [nums_full (show (Nd.new cuts [] []).read a b p = fullP a from if_pos rfl)] at h; cases h), fun h => absurd h (by decide), Int.le_refl _⟩

theorem begun_eq {H : Heap} {t : Sl} {cuts : List Cut} (g : Geo) (hcu : Row H 3 t (cutC cuts)) (hcl : cuts.length ≤ 1099511627776) (hfi : ∀ x ∈ cuts, 0 ≤ x.2.2.1 ∧ x.2.2.1 < 256) :
    ∃ H' a c, law39_begun g (t, ⟨none, 0, 0⟩, ⟨none, 0, 0⟩, ()) H = some ((some (a.c, 0), some (c, 0), true, ()), H') ∧ NdAt H' a (Nd.new cuts [] []) ∧ CkAt H' c a (openK a (Nd.new cuts [] [])) ∧ I a (Nd.new cuts [] []) (openK a (Nd.new cuts [] [])) 0 ∧ (openK a (Nd.new cuts [] [])).n = 0 ∧ Fit a (Nd.new cuts [] []) 0 ∧ Keep (fun _ => False) H H' ∧ (∀ k, a.own k → H.length ≤ k) ∧ H.length ≤ c ∧ 8 ≤ a.B ∧ 4 ≤ a.P ∧ a.P ≤ 11 := by
  unfold law39_begun
  obtain ⟨B, P, S, hsh, hB0, hB1, hP0, hP1, hS0, hS1, hok⟩ := shape_nat g
  let gB : Blk := .cells [.int .i64 g.1, .int .i64 g.2.1, .int .i64 g.2.2.1] .exact
  let fB : Blk := .cells [.sl 3 t, .sl 1 ⟨none, 0, 0⟩, .sl 1 ⟨none, 0, 0⟩] .exact
  let H1 : Heap := H ++ [gB]
  let H2 : Heap := H1 ++ [fB]
  have e1 : H1.length = H.length + 1 := by simp [H1]
  have q1 : H ++ [Blk.cells [.int .i64 g.1, .int .i64 g.2.1, .int .i64 g.2.2.1] .exact] = H1 := rfl
  have q2 : H1 ++ [Blk.cells [.sl 3 t, .sl 1 ⟨none, 0, 0⟩, .sl 1 ⟨none, 0, 0⟩] .exact] = H2 := rfl
  have g2 : H2[H.length]? = some gB := by rw [app_lt (by omega)]; exact app_last
  have f2 : H2[H1.length]? = some fB := app_last
  have r1 := rd_geo (H := H2) (k := H.length) (g := g) (bk := .exact) g2
  obtain ⟨H3, k1, k2⟩ := geometry_eq g H2
  rw [hsh] at k1
  have f3 := k2.get f2 id
  have r2 : @Eq (Option (Sl × Sl × Sl × Unit)) (rd H3 (.agg [.sl 3, .sl 1, .sl 1]) H1.length 0) (some (t, ⟨none, 0, 0⟩, ⟨none, 0, 0⟩, ())) := by
    refine rd_agg_of f3 (by simp) ?_
    simp [Tup.un, CT.un]
    rfl
  have r2' : @Eq (Option (Sl × Sl × Sl × Unit)) (rd H2 (.agg [.sl 3, .sl 1, .sl 1]) H1.length 0) (some (t, ⟨none, 0, 0⟩, ⟨none, 0, 0⟩, ())) := by
    refine rd_agg_of f2 (by simp) ?_
    simp [Tup.un, CT.un]
    rfl
  have k3 : Keep (fun _ => False) H H3 := ((Keep.push _ _ _).trans (Keep.push _ _ _)).trans k2
  obtain ⟨H4, a, n1, n2, n3, nB, nP, nS, n4⟩ := new_yes (B := B) (P := P) (S := S) (f := (t, ⟨none, 0, 0⟩, ⟨none, 0, 0⟩, ())) (cuts := cuts) (fails := []) (bad := []) H3 hok (hcu.keep k3 fun _ _ _ => id) (Row.ni _ 1 0) (Row.ni _ 1 0) hcl (by decide) (by decide)
  have ft := new_fit (a := a) hfi (by omega)
  obtain ⟨H5, c, o1, o2, o3, o4, o5⟩ := open_at n2 (by omega) rfl ft.fine (by omega) (by omega)
  have hI := open_I ft.fine (Int.le_refl 0) (new_J (a := a) cuts)
  have k4 := n3.len
  refine ⟨H5, a, c, ?_, o2, o3, hI.1, hI.2, ft, (k3.trans n3).trans o4, fun k hk => by have := n4 k hk; have := k3.len; omega, by have := k3.len; omega, by omega, by omega, by omega⟩
  have eg : (g.1, g.2.1, g.2.2.1, ()) = g := rfl
  simp only [q1, q2, r1, bind_some, eg, k1, r2, r2', if_true, n1, o1, decide_true, cond_t]

theorem awake39 : law39_awake = some (true, ()) := by
  unfold law39_awake law39_awake.on
  obtain ⟨H1, a, c, b1, b2, b3, b4, b5, b6, b7, b8, b9, bB, bP, bP2⟩ := begun_eq (H := []) (cuts := []) (0, 0, 0, ()) (Row.ni [] 3 0) (by decide) (fun x hx => by cases hx)
  have v1 := ck_value b3
  rw [b5] at v1
  obtain ⟨H2, k2, r1, r2, r3, r4, r5, r6, r7, r8, r9, r10⟩ := raise_calm b2 b3 b4 b6 (by decide) rfl rfl (m := 3) (by rw [b5]; decide) (by decide)
  generalize ((openK a (Nd.new [] [] [])).raise a (Nd.new [] [] []) 3).2.1 = s2 at *
  obtain ⟨H3, k3, t1, t2, t3, t4, t5, t6, t7, t8, t9, t10⟩ := step_calm r2 r3 r4 r8 (by decide) r7 r9 (by rw [r6]; decide) (by decide)
  rw [r6] at t6
  generalize (k2.raise a s2 (k2.n + 1)).2.1 = s3 at *
  obtain ⟨H4, c4, o1, o2, o3, o4, o5⟩ := open_at t2 (by omega) t7 t8.fine (by omega) (by have := t8.sz; omega)
  obtain ⟨i4, n4⟩ := open_I t8.fine (by decide) t4.j
  have v2 := ck_value o3
  have v3 := ck_value (t3.keep o4 id)
  rw [n4, t6] at v2
  rw [t6] at v3
  have v4 := raise_old o2 o3 (m := 4) (by decide) i4.dead t7 (by rw [n4, t6]; decide)
  have e34 : (3 : Int) + 1 = 4 := rfl
  rw [e34] at v2 v3
  simp only [b1, bind_some, Bool.not_true, cond_f, v1, decide_true, r1, t1, o1, v2, v3, v4, cond_t]
end Ev
