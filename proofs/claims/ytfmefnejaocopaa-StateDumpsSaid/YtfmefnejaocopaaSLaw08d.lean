/- The law StateDumps. -/
import Derived.Test.YtfmefnejaocopaaSReplay
import Derived.Test.YtfmefnejaocopaaSStI
set_option linter.unusedSimpArgs false
set_option linter.unusedVariables false
namespace Ev
open Go (IntKind)

theorem wp_exd {α : Type} {x : Option ((Bool × Unit) × α)} (h : WP x fun r => r.1.1 = true) : ∃ H', x = some ((true, ()), H') := by
  obtain ⟨⟨⟨b, ⟨⟩⟩, G⟩, e1, e2⟩ := h
  have e2 : b = true := e2
  subst e2
  exact ⟨G, e1⟩
abbrev st00 : Sta := ⟨[], [], [], []⟩
theorem w00 : SaW st00 := ⟨Asc.nil, Asc.nil, Asc.nil, Asc.nil, fun x hx => absurd hx List.not_mem_nil, fun x hx => absurd hx List.not_mem_nil, fun x hx => absurd hx List.not_mem_nil, fun x hx => absurd hx List.not_mem_nil⟩
/-- A box for a plain state. -/
theorem wp_box {β : Type} {G : Heap} {v : RfV} {K : Heap → Option β} {Q : β → Prop} (k : WP (K (G ++ [.cells (vC v) .exact])) Q) :
    WP ((wr (G ++ [Blk.cells [.sl 3 Sl.nil, .sl 3 Sl.nil, .sl 1 Sl.nil, .sl 2 Sl.nil] .exact]) G.length 0 [.sl 3 v.1, .sl 3 v.2.1, .sl 1 v.2.2.1, .sl 2 v.2.2.2.1]).bind K) Q :=
  wp_to (by rw [wr_t0, wr_c0 _ _ _ _ (by simp)]; rfl) k
theorem rd_box {G K : Heap} {v : RfV} {F : Nat → Prop} (k : Keep F (G ++ [.cells (vC v) .exact]) K) (hF : ¬ F G.length) : rd K (.agg [.sl 3, .sl 3, .sl 1, .sl 2]) G.length 0 = (some v : Option RfV) :=
  rd_agg_of (k.get (by rw [tl_get0]; rfl) hF) (by simp [vC]) rfl
theorem StateDumps_true (s : Sl) {H : Heap} (w : Came [.int .i64, .int .i64, .int .i64, .int .i64, .int .i64, .int .i64] [] s H) : ∃ H', law08_StateDumps s H = some ((true, ()), H') := by
  obtain ⟨rows, hr, hlen, _, _⟩ := came_rows w
  have hr : Row H 6 s (rowsOf ctR rows) := hr
  apply wp_exd
  unfold law08_StateDumps
  refine wp_seq _ (law08_played_eq (rows := rows) hr hlen) ?_
  have hX : SaX (playS st00 (List.take (α := RecT) 60 rows)) := playS_ok _ SaX.nil w00
  generalize playS st00 (List.take (α := RecT) 60 rows) = st at hX
  rintro ⟨r, G⟩ ⟨a, v, hrr, hs, hv, _, _⟩
  have hrr : r = (some (a.c, 0), v, ()) := hrr
  subst hrr
  have hs : StAt G a st := hs
  have hv : RfAt G v st := hv
  have k1 := Keep.app (fun _ => False) G [.cells (vC v) .exact]
  refine wp_box ?_
  have rb : ∀ K : Heap, Keep (fun _ => False) (G ++ [Blk.cells (vC v) .exact]) K → rd K (.agg [.sl 3, .sl 3, .sl 1, .sl 2]) G.length 0 = (some v : Option RfV) := fun K k => rd_box k fun hf => hf
  have gl : G.length < (G ++ [Blk.cells (vC v) .exact]).length := by simp
  generalize hG1 : G ++ [Blk.cells (vC v) .exact] = G1 at k1 rb gl ⊢
  have hs1 := hs.keep k1 fun _ _ hf => hf
  have hv1 := hv.keep k1 fun _ _ hf => hf
  obtain ⟨d, G2, e1, e2, e3⟩ := st_dump hs1
  have k2 := e2.calm rfl
  obtain ⟨a2, n1, n2, n3, n4⟩ := new_st G2
  have k3 := Keep.app (fun _ => False) G2 [.mp [] 0, .mp [] 0, .mp [] 0, .mp [] 0, .cells [.mp (some G2.length), .mp (some (G2.length + 1)), .mp (some (G2.length + 2)), .mp (some (G2.length + 3))] .exact]
  generalize G2 ++ [Blk.mp [] 0, .mp [] 0, .mp [] 0, .mp [] 0, .cells [.mp (some G2.length), .mp (some (G2.length + 1)), .mp (some (G2.length + 2)), .mp (some (G2.length + 3))] .exact] = G3 at n1 n3 k3
  rw [← n2] at n1
  have hrow : Row G3 6 d (rowsOf ctR (dumpL st)) := (Row.grown e2.g).keep k3 fun _ _ _ hf => hf
  have hdlow : ∀ b o, d.p = some (b, o) → b < G2.length := fun b o hp => e2.g.lt hp
  have hrun := run_dump hs.w hX
  have hdl := dumpL_len hs.w
  refine wp_to e1 (wp_to n1 (wp_seq _ (wp_rise (step := law08_StateDumps.s1 ((d, ()), G2) ((some (a2.c, 0), ()), G3)) (dumpL st).length
    (fun i (y : Int × Unit) K => y = ((i : Int), ()) ∧ ∃ a' st', StAt K a' st' ∧ a'.c = a2.c ∧ runS st00 (List.take (α := RecT) i (dumpL st)) = some st' ∧ (∀ b, a'.fp st' b → G2.length ≤ b) ∧ Keep (fun b => G2.length ≤ b) G3 K)
    (fun (x : Unit ⊕ (Bool × Unit)) K => x = .inl () ∧ ∃ a', StAt K a' st ∧ a'.c = a2.c ∧ Keep (fun b => G2.length ≤ b) G3 K) ?_ ?_ ?_) ?_))
  · rintro i y K hi ⟨rfl, a', st', hs', hc', hru, hoff, kK⟩
    have hrK := hrow.low hdlow kK
    have hi' : i < List.length (α := RecT) (dumpL st) := hi
    obtain ⟨b1, o1, q1, q2⟩ := row_rec (rows := dumpL st) hrK hi'
    obtain ⟨st2, t1, t2, t3⟩ := runS_take hrun hi'
    rw [hru] at t1
    cases t1
    obtain ⟨K2, a3, f1, f2⟩ := st_Apply hs' (List.get (α := RecT) (dumpL st) ⟨i, hi'⟩)
    rw [hc'] at f1
    have hw := wrap_succ (show i < 9223372036854775807 by omega)
    unfold law08_StateDumps.s1
    refine wp_t (decide_eq_true (by rw [e3]; exact Int.ofNat_lt.2 hi)) (wp_to q1 (wp_to (q2 hrK).1 (wp_to f1 (wp_f ?_ (wp_some ⟨?_, a3, _, f2.s, f2.c.trans hc', t3, fun b hb => ?_, kK.trans (f2.k.mono fun b hb => hoff b hb)⟩)))))
    · have t2' : (st'.doS (List.get (α := RecT) (dumpL st) ⟨i, hi'⟩)).1 = 0 := t2
      simp [t2']
    · simp only [hw]
    · rcases f2.n b hb with hh | hh
      · exact hoff b hh
      · have h1 := k3.len
        have h2 := kK.len
        omega
  · rintro y K ⟨rfl, a', st', hs', hc', hru, hoff, kK⟩
    have hru2 : some st' = some st := hru.symm.trans ((congrArg (runS st00) (List.take_length (α := RecT) (l := dumpL st))).trans hrun)
    cases hru2
    unfold law08_StateDumps.s1
    exact wp_f (decide_eq_false (by rw [e3]; exact Int.lt_irrefl _)) (wp_some ⟨rfl, a', hs', hc', kK⟩)
  · exact ⟨rfl, a2, _, n3, rfl, rfl, n4, Keep.refl _ _⟩
  · rintro ⟨x, K⟩ ⟨rfl, a', hs', hc', kK⟩
    have hs' : StAt K a' st := hs'
    have h2 := k2.len
    have hk2K : ∀ b x, G2[b]? = some x → K[b]? = some x := fun b x hx => kK.get (k3.get hx fun hf => hf) (by have := get_lt hx; omega)
    have hkK : Keep (fun _ => False) G1 K := ⟨by have := k3.len; have h4 : G3.length ≤ K.length := kK.len; omega, fun b hb _ => by
      have h5 := k2.same b hb fun hf => hf
      have h6 : G1[b]? = some G1[b] := List.getElem?_eq_getElem hb
      rw [h6] at h5 ⊢
      exact hk2K b _ h5⟩
    have hvK := hv1.keep hkK fun _ _ hf => hf
    have hsK := hs1.keep hkK fun _ _ hf => hf
    have hsame := law08_same hs' hvK
    rw [hc'] at hsame
    refine wp_to awake08 (wp_t rfl (wp_to (rb K hkK) (wp_seq _ hsame ?_)))
    rintro ⟨⟨b5, ⟨⟩⟩, K5⟩ ⟨hb5, k5⟩
    have hb5 : b5 = true := hb5
    subst hb5
    refine wp_t rfl (wp_to (rb K5 (hkK.trans k5)) (wp_seq _ (law08_same (hsK.keep k5 fun _ _ hf => hf) (hvK.keep k5 fun _ _ hf => hf)) ?_))
    rintro ⟨⟨b6, ⟨⟩⟩, K6⟩ ⟨hb6, k6⟩
    exact wp_some hb6
end Ev
