/- Chapter 30: new cells; one page that is written; whether a page is nearly erased. -/
import Derived.Test.YtpebaginkkbnpaaGreatSLaw30
namespace Ev
open Go (IntKind)

theorem zbs_append : ∀ (a b : Bytes), zbs (a ++ b) = zbs a + zbs b
  | [], b => by simp [zbs]
  | x :: a, b => by rw [List.cons_append, zbs, zbs, zbs_append a b]; omega
theorem zbs_ones : ∀ n, zbs (List.replicate n 255) = 0
  | 0 => rfl
  | n + 1 => by rw [List.replicate_succ, zbs, zbs_ones n]; decide
theorem zb_zero : ∀ c : UInt8, zb c = 0 → c = 255 := by
  have key : ∀ n, n < 256 → zb (UInt8.ofNat n) = 0 → n = 255 := by decide +kernel
  intro c h
  have := key c.toNat c.toNat_lt (by rw [UInt8.ofNat_toNat]; exact h)
  apply UInt8.toNat_inj.1
  rw [this]; rfl
theorem zbs_zero : ∀ {s : Bytes}, zbs s = 0 → s = List.replicate s.length 255
  | [], _ => rfl
  | c :: r, h => by
    rw [zbs] at h
    rw [List.length_cons, List.replicate_succ, zb_zero c (by omega), ← zbs_zero (s := r) (by omega)]

/-- Nothing was handed in that cuts or fails. -/
theorem rawIs_std : rawIs (8, 4, 64, ()) = true := by decide +kernel
theorem shW96 : shW 96 8 = 1 := by decide
theorem Wf.newN {a : NdA} (fails bad : List Int) (h : 1 ≤ a.B ∧ a.B ≤ 1000 ∧ 1 ≤ a.P ∧ a.P ≤ 1000 ∧ a.S ≤ 1000) : Wf a (Nd.new [] fails bad) 0 :=
  ⟨⟨Int.le_refl _, Int.le_refl _⟩, fun _ => ⟨Int.le_refl _, Int.le_refl _⟩, (fun x hx => by cases hx), fun _ _ => .inl rfl, by decide, h⟩
theorem cnew_std {f : Sl × Sl × Sl × Unit} {ns : Sl} {seed : Int} {fails bad : List Int} {N : List Noi} (H : Heap) (hcu : Row H 3 f.1 (cutC [])) (hfa : Row H 1 f.2.1 (intC fails)) (hba : Row H 1 f.2.2.1 (intC bad))
    (hns : Row H 5 ns (noiC N)) (hl2 : fails.length ≤ 1000000) (hl3 : bad.length ≤ 1000000) (hl4 : N.length ≤ 1000000) (hsd : 0 ≤ seed ∧ seed ≤ 1000000) (hnb : ∀ n ∈ N, 0 ≤ n.2.2.2.2.1 ∧ n.2.2.2.2.1 < 256) :
    ∃ H' q, cell_New (8, 4, 64, ()) f ns seed H = some ((some (q.c, 0), 0, ()), H') ∧ CeAt H' q (Ce.new fails bad seed N) ∧ Keep (fun _ => False) H H' ∧ Std q ∧ Wf q.a (Nd.new [] fails bad) 0 ∧ ∀ k, q.own k → H.length ≤ k := by
  obtain ⟨H', q, e1, e2, e3, e4, e5, e6, e7, e8⟩ := cnew_yes (B := 8) (P := 4) (S := 64) H rawIs_std hcu hfa hba hns hl2 hl3 hl4 hsd hnb
  have hstd : Std q := ⟨e4, e5, e6, by rw [e7]; exact shW96⟩
  refine ⟨H', q, e1, e2, e3, hstd, Wf.newN _ _ ?_, e8⟩
  have haS := e2.aS
  rw [hstd.R] at haS
  omega

section
variable {H : Heap} {q : CeA} {t : Ce} {D : Int}
theorem progC_wf (w : Wf q.a t.s D) (hD : D < 1000000) (b p : Int) (d sp : Bytes) : Wf q.a (progC q t b p d sp).2.s (D + 1) := by
  unfold progC
  split
  · exact w.le (by omega) (by omega)
  · split
    · exact w.le (by omega) (by omega)
    · exact (w.progT hD b p _ _).1
theorem eraC_wf (w : Wf q.a t.s D) (hD : D < 1000000) (b : Int) : Wf q.a (eraC q t b).2.s (D + 1) := (w.eraseT hD b).1
theorem readC_s (q : CeA) (t : Ce) (b p : Int) (o : Bytes × Int × Int) : (readC q t b p o).2.s = t.s ∧ (readC q t b p o).2.seed = t.seed ∧ (readC q t b p o).2.N = t.N := by
  unfold readC Ce.turned
  split
  · exact ⟨rfl, rfl, rfl⟩
  · split
    · exact ⟨rfl, rfl, rfl⟩
    · split <;> exact ⟨rfl, rfl, rfl⟩

/-- A page that may be written, when nothing fails. -/
theorem prog_ok {b p : Nat} {d sp : Bytes} (hb : b < q.a.B) (hp : p < q.a.P) (ho : t.s.off = false) (hcu : t.s.cuts = []) (hfa : t.s.fails = []) (hde : t.s.dead b = false) (hus : t.s.used q.a b p = false) (h1 : d.length = q.S) (h2 : sp.length = 32) (haS : q.a.S + 32 = q.R) :
    progC q t (b : Int) (p : Int) d sp = (0, { t with s := t.s.acted.lay q.a b p (keptF q (t.seed + q.num b p) (d ++ sp)), X := fun k => if k = q.num b p then none else t.X k }) := by
  have he : t.s.inE q.a (b : Int) (p : Int) = 0 := by
    unfold Nd.inE
    rw [if_neg (by rw [ho]; decide), if_neg (by omega)]
  have hkl := kept_len (q := q) (s := d ++ sp) (by rw [List.length_append]; omega) (t.seed + q.num b p)
  have hcn : t.s.cutNow = none := by unfold Nd.cutNow; rw [hcu]; rfl
  have hfn : t.s.failNow = false := by unfold Nd.failNow; rw [hfa]; simp
  have hr : t.s.progT q.a (b : Int) (p : Int) ((keptF q (t.seed + q.num b p) (d ++ sp)).take q.a.S) ((keptF q (t.seed + q.num b p) (d ++ sp)).drop q.a.S) = (0, t.s.acted.lay q.a b p (keptF q (t.seed + q.num b p) (d ++ sp))) := by
    unfold Nd.progT
    rw [if_neg (by simpa using he), if_neg (by rw [List.length_take, List.length_drop]; omega), Int.toNat_natCast, Int.toNat_natCast, hus, if_neg (by decide), List.take_append_drop]
    unfold Nd.program
    rw [hcn]
    simp only
    rw [if_neg (by rw [hde, hfn]; simp)]
  unfold progC
  rw [if_neg (by simpa using he), if_neg (by omega)]
  simp only [hr]
  rw [if_pos (by decide)]

theorem nearly_eq (h : CeAt H q t) (w : Wf q.a t.s D) {b p : Nat} (hb : b < q.a.B) (hp : p < q.a.P) (ho : t.s.off = false) : ∃ H', law30_nearly (some (q.c, 0)) (b : Int) (p : Int) H = some ((decide (zbs (t.s.read q.a b p) ≤ 40 ∧ zbs (t.s.read q.a b p) ≠ 0), ()), H') ∧ CeAt H' q t ∧ Keep (fun _ => False) H H' := by
  obtain ⟨H1, n1, n2, n3⟩ := nand_readT h.nd w (b : Int) (p : Int)
  have hC := h.keep n3 fun _ _ => id
  have he : t.s.inE q.a (b : Int) (p : Int) = 0 := by
    unfold Nd.inE
    rw [if_neg (by rw [ho]; decide), if_neg (by omega)]
  have hl := read_len h w b p
  have hR := h.R_le
  have hrt : t.s.readT q.a (b : Int) (p : Int) = ((t.s.read q.a b p).take q.a.S, (t.s.read q.a b p).drop q.a.S, 0, ()) := by
    unfold Nd.readT
    rw [if_neg (by simpa using he), Int.toNat_natCast, Int.toNat_natCast]
  rw [hrt] at n1
  have hcat : catS ((t.s.read q.a b p).take q.a.S) ((t.s.read q.a b p).drop q.a.S) = some (t.s.read q.a b p) := by
    rw [cat_of (by rw [List.length_take, List.length_drop]; omega), List.take_append_drop]
  refine ⟨H1, ?_, hC, n3⟩
  obtain ⟨x, hx⟩ : ∃ x, x = t.s.read q.a b p := ⟨_, rfl⟩
  simp only [← hx] at n1 hcat hl ⊢
  unfold law30_nearly
  simp only [ce_chip h, bind_some, n1, decide_true, cond_t, hcat, erased_eq x 40 (by omega), erased_eq x 0 (by omega)]
  by_cases c1 : zbs x ≤ 40
  · rw [decide_eq_true (show ((zbs x : Nat) : Int) ≤ 40 by omega), cond_t]
    by_cases c2 : zbs x = 0
    · rw [decide_eq_true (show ((zbs x : Nat) : Int) ≤ 0 by omega), decide_eq_false (fun h => h.2 c2)]; rfl
    · rw [decide_eq_false (show ¬ ((zbs x : Nat) : Int) ≤ 0 by omega), decide_eq_true ⟨c1, c2⟩]; rfl
  · rw [decide_eq_false (show ¬ ((zbs x : Nat) : Int) ≤ 40 by omega), cond_f, decide_eq_false (fun h => c1 h.1)]

/-- A read that tells the page. -/
theorem readC_dec {b p : Nat} {s : Bytes} {n : Int} (hb : b < q.a.B) (hp : p < q.a.P) (ho : t.s.off = false) (hz : 16 < zbs (rawX q (t.turned q) b p)) :
    readC q t (b : Int) (p : Int) (s, n, 0) = ((s.take q.S, s.drop q.S, 0, ()), { t.turned q with hw := n, wk := decide (2 ≤ n) }) := by
  have he : t.s.inE q.a (b : Int) (p : Int) = 0 := by
    unfold Nd.inE
    rw [if_neg (by rw [ho]; decide), if_neg (by omega)]
  unfold readC
  rw [if_neg (by simpa using he), Int.toNat_natCast, Int.toNat_natCast, if_neg (by omega), if_neg (by simp)]
theorem readC_full {b p : Nat} {o : Bytes × Int × Int} (hb : b < q.a.B) (hp : p < q.a.P) (ho : t.s.off = false) (hz : zbs (rawX q (t.turned q) b p) ≤ 16) :
    readC q t (b : Int) (p : Int) o = ((List.replicate q.S 255, List.replicate 32 255, 0, ()), { t.turned q with wk := !decide (zbs (rawX q (t.turned q) b p) = 0) }) := by
  have he : t.s.inE q.a (b : Int) (p : Int) = 0 := by
    unfold Nd.inE
    rw [if_neg (by rw [ho]; decide), if_neg (by omega)]
  unfold readC
  rw [if_neg (by simpa using he), Int.toNat_natCast, Int.toNat_natCast, if_pos hz]
end

/-- The first bytes of a kept page. -/
theorem co_raw {s : Bytes} {n : Nat} (hs : s.length = n) {seed : Int} {k : Nat} (hk : k < n) : co (rawF s 1 8 seed) k = co s k ^^^ mkB seed k := by
  unfold rawF rawT
  rw [co_pl, tF_len, hs, if_pos (by omega), if_pos hk]
  unfold tF mixF maskF
  rw [co_pl, pl_len, if_pos (by omega), co_pl, if_pos (by omega)]
theorem sumN_mono {f : Nat → Nat} {a : Nat} : ∀ {b : Nat}, a ≤ b → sumN f a ≤ sumN f b
  | 0, h => by have : a = 0 := by omega
               subst this; exact Nat.le_refl _
  | b + 1, h => by
    rcases Nat.lt_or_ge b a with h2 | h2
    · have : a = b + 1 := by omega
      subst this; exact Nat.le_refl _
    · have := sumN_mono (f := f) h2
      simp only [sumN]; omega
theorem zbs_raw8 {s : Bytes} (hs : s.length = 96) (seed : Int) (m : Nat) (hm : m ≤ 96) : sumN (fun k => zb (co s k ^^^ mkB seed k)) m ≤ zbs (rawF s 1 8 seed) := by
  rw [zbs_co, rawF_len, hs]
  refine Nat.le_trans (Nat.le_of_eq (sumN_congr fun k hk => ?_)) (sumN_mono (show m ≤ 96 + 1 * 8 by omega))
  rw [co_raw hs (by omega)]
end Ev
