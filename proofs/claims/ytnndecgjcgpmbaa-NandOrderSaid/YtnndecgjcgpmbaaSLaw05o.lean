/- NandOrder: a page is written once between two erasures, behind those that were. In plain Lean. -/
import Derived.Test.YtnndecgjcgpmbaaSLaw05n
namespace Ev
open Go (IntKind)

/-- A chip without faults, of which the pages of block 3 up to top are written. -/
structure Ord (a : NdA) (s : Nd) (top did : Int) : Prop where
  cuts : s.cuts = []
  fails : s.fails = []
  off : s.off = false
  dead : ∀ b, s.dead b = false
  dd : s.did = did
  worn : ∀ b, 0 ≤ s.worn b ∧ s.worn b ≤ did
  free : ∀ q : Nat, top < q → q < a.P → s.pages 3 q = []
  last : 0 ≤ top → s.pages 3 top.toNat ≠ []

theorem lay_get {a : NdA} {s : Nd} {b p : Nat} {t : Bytes} (ht : t ≠ fullP a) (k q : Nat) : (s.lay a b p t).pages k q = if k = b ∧ q = p then t else s.pages k q := by
  simp only [Nd.lay, upd2, if_neg ht]

theorem order_round {R G : Heap} {a : NdA} {s : Nd} {top did : Int} (h : NdAt G a s) (k : Ord a s top did) (htop : -1 ≤ top ∧ top < a.P) (hdid : 0 ≤ did ∧ did ≤ 1000000) (hB : 3 < a.B) {p : Nat} (hp : p < a.P) {d : Bytes} (hd : d.length = a.S) :
    (top < p ∧ ∃ G' s', nand_Chip_Program (some (a.c, 0)) 3 (p : Int) d (txt 32 1) G = some ((0, ()), G') ∧ NdAt G' a s' ∧ Ord a s' p (did + 1) ∧ Keep a.fp G G') ∨
    ((p : Int) ≤ top ∧ nand_Chip_Program (some (a.c, 0)) 3 (p : Int) d (txt 32 1) G = some ((52, ()), G)) := by
  have hc := cutNow_nil k.cuts
  have hf := failNow_nil k.fails
  by_cases hlt : top < p
  · left
    refine ⟨hlt, ?_⟩
    obtain ⟨G', g1, g2, g3⟩ := nand_program h (by rw [k.dd]; omega) (by rw [k.cuts]; intro x hx; cases hx) (b := 3) (p := p) k.off hB hp (d := d) (sp := txt 32 1) hd rfl (used_false fun q h1 h2 => k.free q (by omega) h2)
    rw [program_ok hc (k.dead 3) hf] at g1 g2
    refine ⟨G', _, g1, g2, ?_, g3⟩
    have hne := txt_ne (a := a) (d := d) (c := 1) (by decide)
    rw [acted_plain hc]
    refine ⟨k.cuts, k.fails, k.off, k.dead, by show s.did + 1 = did + 1; rw [k.dd], fun b => by have := k.worn b; show 0 ≤ s.worn b ∧ s.worn b ≤ did + 1; omega, fun q h1 h2 => ?_, fun _ => ?_⟩
    · rw [lay_get hne, if_neg (by omega)]
      exact k.free q (by omega) h2
    · rw [lay_get hne, Int.toNat_natCast, if_pos ⟨rfl, rfl⟩]
      exact txt_ne_nil
  · right
    refine ⟨by omega, ?_⟩
    exact prog_used h (b := 3) (p := p) k.off hB hp (d := d) (sp := txt 32 1) hd rfl (used_true (q := top.toNat) (by omega) (by omega) (k.last (by omega)))

theorem order_erase {G : Heap} {a : NdA} {s : Nd} {top did : Int} (h : NdAt G a s) (k : Ord a s top did) (hdid : 0 ≤ did ∧ did ≤ 1000000) (hB : 3 < a.B) (hP : 0 < a.P) :
    ∃ G' s', nand_Chip_Erase (some (a.c, 0)) 3 G = some ((0, ()), G') ∧ NdAt G' a s' ∧ Ord a s' (-1) (did + 1) ∧ Keep a.fp G G' := by
  have hc := cutNow_nil k.cuts
  have hf := failNow_nil k.fails
  have hw := k.worn 3
  obtain ⟨G', g1, g2, g3⟩ := nand_erase h (by rw [k.dd]; omega) (by rw [k.cuts]; intro x hx; cases hx) (b := 3) k.off hB hP (by omega)
  rw [erase_ok hc (k.dead 3) hf] at g1 g2
  refine ⟨G', _, g1, g2, ?_, g3⟩
  rw [acted_plain hc]
  refine ⟨k.cuts, k.fails, k.off, k.dead, by show s.did + 1 = did + 1; rw [k.dd], fun b => ?_, fun q _ h2 => ?_, fun hh => absurd hh (by decide)⟩
  · have h1 := k.worn b
    have h2 := k.worn 3
    show 0 ≤ upd s.worn 3 (s.worn 3 + 1) b ∧ upd s.worn 3 (s.worn 3 + 1) b ≤ did + 1
    unfold upd
    split <;> omega
  · show (if (3 : Nat) = 3 ∧ q < a.P then [] else s.pages 3 q) = []
    rw [if_pos ⟨rfl, h2⟩]

theorem wrap_u8_nat (i : Nat) (h : i < 256) : ∃ c : UInt8, IntKind.wrap .u8 (i : Int) = (c.toNat : Int) := by
  refine ⟨UInt8.ofNat i, ?_⟩
  rw [wrap_u8]
  have : (UInt8.ofNat i).toNat = i := by simp; omega
  rw [this]; omega

theorem NandOrder_true (x0 : Geo) (x1 : Sl) {H : Heap} (_ : ∀ c ∈ Tup.mk [.int .i64, .int .i64, .int .i64] x0, wfC c) (hx1 : Came [.int .i64] [] x1 H) : ∃ H', law05_NandOrder x0 x1 H = some ((true, ()), H') := by
  obtain ⟨l, lr, ll, lw, lb⟩ := came_ints hx1
  obtain ⟨B, P, S, hsh, hB0, hB1, hP0, hP1, hS0, hS1, hok⟩ := shape_nat x0
  unfold law05_NandOrder
  let gB : Blk := .cells [.int .i64 x0.1, .int .i64 x0.2.1, .int .i64 x0.2.2.1] .exact
  let hB : Blk := .cells [.int .i64 (B : Int), .int .i64 (P : Int), .int .i64 (S : Int)] .exact
  let H1 : Heap := H ++ [gB]
  let H5 : Heap := H1 ++ [hB]
  have r1 := rd_geo (H := H1) (k := H.length) (g := x0) (bk := .exact) app_last
  have q1 : H ++ [Blk.cells [.int .i64 x0.1, .int .i64 x0.2.1, .int .i64 x0.2.2.1] .exact] = H1 := rfl
  have ge : law05_Geometry (x0.1, x0.2.1, x0.2.2.1, ()) = some (((B : Int), (P : Int), (S : Int), ()), ()) := by rw [← hsh]; exact geometry_eq x0
  have w1 : wr (H1 ++ [Blk.cells [.int .i64 0, .int .i64 0, .int .i64 0] .exact]) H1.length 0 [.int .i64 (B : Int), .int .i64 (P : Int), .int .i64 (S : Int)] = some H5 := by rw [wr_last (by decide) (by simp)]; rfl
  have r2 := rd_geo (H := H5) (k := H1.length) (g := ((B : Int), (P : Int), (S : Int), ())) (bk := .exact) app_last
  obtain ⟨R, a, n1, n2, n3, nB, nP, nS, n4⟩ := new_yes (B := B) (P := P) (S := S) (f := (⟨none, 0, 0⟩, ⟨none, 0, 0⟩, ⟨none, 0, 0⟩, ())) (cuts := []) (fails := []) (bad := []) H5 hok (Row.ni _ 3 0) (Row.ni _ 1 0) (Row.ni _ 1 0) (by decide) (by decide) (by decide)
  have hl1 : H1.length = H.length + 1 := by simp [H1]
  have hl5 : H5.length = H.length + 2 := by simp [H5, H1]
  have hgR : R[H1.length]? = some hB := n3.get (A := H5) app_last id
  have hrow : Row R 1 x1 (intC l) := (lr.push gB |>.push hB).keep n3 fun _ _ _ => id
  have hfp : ∀ k, a.fp k → H5.length ≤ k := fun k hk => n4 k (.inl hk)
  obtain ⟨y, G, l1, l2⟩ := loopW_run (step := law05_NandOrder.s1 x1 H1 ((some (a.c, 0), 0, ()), R))
    (fun t G => ∃ i : Nat, i ≤ 40 ∧ t.2.2.1 = (i : Int) ∧ ∃ s, NdAt G a s ∧ Ord a s t.1 t.2.1 ∧ -1 ≤ t.1 ∧ t.1 < (P : Int) - 1 ∧ 0 ≤ t.2.1 ∧ t.2.1 ≤ 2 * (i : Int) ∧ Keep a.fp R G)
    (fun y _ => y = .inl ()) (fun t _ => 40 - t.2.2.1.toNat)
    (by
      rintro ⟨top, did, j, u⟩ G ⟨i, hi, hj, s, hs, ho, ht0, ht1, hd0, hd1, hK⟩
      have hj : j = (i : Int) := hj
      subst hj
      have ho : Ord a s top did := ho
      have ht0 : -1 ≤ top := ht0
      have ht1 : top < (P : Int) - 1 := ht1
      have hd0 : 0 ≤ did := hd0
      have hd1 : did ≤ 2 * i := hd1
      unfold law05_NandOrder.s1
      by_cases hlen : i < l.length
      · by_cases h40 : i < 40
        · have hrow' : Row G 1 x1 (intC l) := hrow.keep hK fun b o hp hf => by
            have := hfp _ hf
            have := lb b o hp
            have := lr.lt hp
            omega
          have hgG : ∀ {G' : Heap}, Keep a.fp R G' → G'[H1.length]? = some hB := fun hk => hk.get hgR fun hf => by have := hfp _ hf; omega
          have rP : ∀ {G' : Heap}, Keep a.fp R G' → rdI .i64 G' H1.length 1 = some (P : Int) := fun hk => rdI_of (hgG hk) rfl
          have rS : rdI .i64 G H1.length 2 = some (S : Int) := rdI_of (hgG hK) rfl
          obtain ⟨b, o, _, x1a, x1b⟩ := hrow'.int hlen
          have dP : decide ((P : Int) = 0) = false := decide_eq_false (by omega)
          obtain ⟨c, hc⟩ := wrap_u8_nat i (by omega)
          have t1 : law05_text (S : Int) (IntKind.wrap .u8 (i : Int)) = some (txt S c, ()) := by rw [hc]; exact text_eq S c (by omega)
          have t2 : law05_text 32 1 = some (txt 32 1, ()) := text_eq 32 1 (by decide)
          have hp01 : 0 ≤ Int.tmod (IntKind.wrap .i64 ((Int.tmod l[i] (P : Int)) + (P : Int))) (P : Int) ∧ Int.tmod (IntKind.wrap .i64 ((Int.tmod l[i] (P : Int)) + (P : Int))) (P : Int) < (P : Int) := by
            have h1 := Int.tmod_lt_of_pos l[i] (show (0 : Int) < (P : Int) by omega)
            have h2 := Int.lt_tmod_of_pos l[i] (show (0 : Int) < (P : Int) by omega)
            rw [wrap_i64 (by omega) (by omega)]
            exact ⟨Int.tmod_nonneg _ (by omega), Int.tmod_lt_of_pos _ (by omega)⟩
          generalize hpp : Int.tmod (IntKind.wrap .i64 ((Int.tmod l[i] (P : Int)) + (P : Int))) (P : Int) = p at hp01
          obtain ⟨p, rfl⟩ : ∃ q : Nat, p = (q : Int) := ⟨p.toNat, (Int.toNat_of_nonneg hp01.1).symm⟩
          have hlenI : decide ((i : Int) < (x1.len : Int)) = true := decide_eq_true (by omega)
          have h40I : decide ((i : Int) < 40) = true := decide_eq_true (by omega)
          simp only [hlenI, cond_t, h40I, x1a, bind_some, x1b, rP hK, dP, cond_f, rS, t1, t2, hpp]
          -- what is told behind the writing
          have next : ∀ {G' : Heap} {s' : Nd} {top' did' : Int}, NdAt G' a s' → Ord a s' top' did' → -1 ≤ top' → top' < (P : Int) → 0 ≤ did' → did' ≤ 2 * i + 1 → Keep a.fp R G' →
              Round (fun t H' => (∃ i : Nat, i ≤ 40 ∧ t.2.2.1 = (i : Int) ∧ ∃ s, NdAt H' a s ∧ Ord a s t.1 t.2.1 ∧ -1 ≤ t.1 ∧ t.1 < (P : Int) - 1 ∧ 0 ≤ t.2.1 ∧ t.2.1 ≤ 2 * (i : Int) ∧ Keep a.fp R H') ∧ 40 - t.2.2.1.toNat < 40 - (i : Int).toNat) (fun y _ => y = .inl ())
                ((nand_Chip_Did (some (a.c, 0)) G').bind fun (r23 : ((Int × Unit) × Heap)) => cond (!decide (r23.1.1 = did')) (some ((Sum.inr (Sum.inr (false, ())) : (Int × Int × Int × Unit) ⊕ (Unit ⊕ (Bool × Unit))), r23.2)) (
                  (rdI .i64 r23.2 H1.length 1).bind fun (v24 : Int) => cond (decide (top' = (IntKind.wrap .i64 (v24 - 1)))) (
                    (nand_Chip_Erase (some (a.c, 0)) 3 r23.2).bind fun (r25 : ((Int × Unit) × Heap)) => cond (!decide (r25.1.1 = 0)) (some (Sum.inr (Sum.inr (false, ())), r25.2)) (some (Sum.inl ((-1), (IntKind.wrap .i64 (did' + 1)), (IntKind.wrap .i64 ((i : Int) + 1)), ()), r25.2)))
                    (some (Sum.inl (top', did', (IntKind.wrap .i64 ((i : Int) + 1)), ()), r23.2)))) := by
            intro G' s' top' did' hs' ho' a1 a2 a3 a4 hk'
            have e1 := nand_did hs'
            rw [ho'.dd] at e1
            have ew : IntKind.wrap .i64 ((P : Int) - 1) = (P : Int) - 1 := wrap_i64 (by omega) (by omega)
            have ewd : IntKind.wrap .i64 (did' + 1) = did' + 1 := wrap_i64 (by omega) (by omega)
            simp only [e1, bind_some, decide_true, Bool.not_true, cond_f, rP hk', ew, wrap_succ (show i < 9223372036854775807 by omega), ewd]
            by_cases htp : top' = (P : Int) - 1
            · obtain ⟨G2, s2, m1, m2, m3, m4⟩ := order_erase hs' ho' (by omega) (by rw [nB]; omega) (by rw [nP]; omega)
              simp only [decide_eq_true htp, cond_t, m1, bind_some, decide_true, Bool.not_true, cond_f, Round]
              exact ⟨⟨i + 1, by omega, rfl, s2, m2, m3, by omega, by omega, by omega, by omega, hk'.trans m4⟩, by simp; omega⟩
            · simp only [decide_eq_false htp, cond_f, Round]
              exact ⟨⟨i + 1, by omega, rfl, s', hs', ho', a1, by omega, a3, by omega, hk'⟩, by simp; omega⟩
          rcases order_round (R := R) hs ho ⟨ht0, by rw [nP]; omega⟩ ⟨hd0, by omega⟩ (by rw [nB]; omega) (p := p) (by rw [nP]; omega) (d := txt S c) (by rw [nS]; simp [txt]) with ⟨m0, G', s', m1, m2, m3, m4⟩ | ⟨m0, m1⟩
          · have ewd : IntKind.wrap .i64 (did + 1) = did + 1 := wrap_i64 (by omega) (by omega)
            simp only [m1, bind_some, decide_true, decide_eq_true m0, beq_self_eq_true, Bool.not_true, cond_f, cond_t, sum0, ewd]
            exact next m2 m3 (by omega) (by omega) (by omega) (by omega) (hK.trans m4)
          · have d1 : decide (top < (p : Int)) = false := decide_eq_false (by omega)
            have d2 : decide ((52 : Int) = 0) = false := rfl
            simp only [m1, bind_some, d1, d2, decide_true, beq_self_eq_true, Bool.not_true, Bool.not_false, cond_f, cond_t, sum0]
            exact next hs ho ht0 (by omega) hd0 (by omega) hK
        · have : i = 40 := by omega
          subst this
          have hlenI : decide (((40 : Nat) : Int) < (x1.len : Int)) = true := decide_eq_true (by omega)
          have h40I : decide (((40 : Nat) : Int) < 40) = false := rfl
          simp only [hlenI, cond_t, h40I, cond_f, Round]
      · have hlenI : decide ((i : Int) < (x1.len : Int)) = false := decide_eq_false (by omega)
        simp only [hlenI, cond_f, Round]) ((-1), 0, 0, ()) R ⟨0, by omega, rfl, _, n2, ⟨rfl, rfl, rfl, fun _ => rfl, rfl, fun _ => ⟨Int.le_refl _, Int.le_refl _⟩, fun _ _ _ => rfl, fun hh => absurd hh (by decide)⟩, by show (-1 : Int) ≤ -1; omega, by show (-1 : Int) < (P : Int) - 1; omega, Int.le_refl _, Int.le_refl _, Keep.refl _ _⟩
  subst l2
  refine ⟨G, ?_⟩
  have l1' : loopW (law05_NandOrder.s1 x1 H1 ((some (a.c, 0), 0, ()), R)) (-1, 0, 0, ()) R = some (.inl (), G) := l1
  simp only [q1, r1, bind_some, ge, w1, r2, n1, awake05, Bool.not_true, cond_f, decide_true, l1', sum0]
end Ev
