/- The laws of weaving: pages that are kept, bursts, bytes that are lost. -/
import Derived.Test.YtboamjjdpmaikaaSLaw29
namespace Ev
open Go (IntKind)

/-- A page's bytes: so many. -/
def pgF (s : Bytes) (n : Nat) : Bytes := pl n fun k => if k < min s.length n then co s k else UInt8.ofNat k
theorem pgF_len (s : Bytes) (n : Nat) : (pgF s n).length = n := pl_len _ _
theorem page_eq (s : Bytes) (n : Nat) (hs : s.length ≤ 140737488351232) (hn : n < 100000) : law29_page s (n : Int) = some (pgF s n, ()) := by
  have hk : (if (n : Int) < (s.length : Int) then (n : Int) else (s.length : Int)) = ((min s.length n : Nat) : Int) := by split <;> omega
  have hk1 : min s.length n ≤ s.length := Nat.min_le_left _ _
  have hk2 : min s.length n ≤ n := Nat.min_le_right _ _
  unfold law29_page law29_page.on pgF
  generalize hm : min s.length n = m at *
  have s1 := sub_of (s := s) (lo := 0) (hi := m) (by omega) hk1
  rw [List.drop_zero] at s1
  have s1' : subS s 0 (m : Int) = some (s.take m) := s1
  have hl : (s.take m).length = m := by rw [List.length_take]; omega
  have hct : cellsOf (s.take m) = cellsOf (pl m fun k => if k < m then co s k else UInt8.ofNat k) := by
    congr 1
    rw [← pl_co (s.take m), hl]
    refine pl_congr fun k hk => ?_
    rw [if_pos hk, co_lt (by omega), co_lt (by omega), List.getElem_take]
  have g0 : GrowN [] ([] ++ [Blk.cells (cellsOf (s.take m)) .loose]) 1 ⟨some (([] : Heap).length, 0), m, m⟩ (cellsOf (pl m fun k => if k < m then co s k else UInt8.ofNat k)) := by
    rw [hct]
    exact ⟨⟨rfl, by rw [cells_len, pl_len]; show m = m * 1; omega, fun h => (by cases h), fun a h => (by cases h; exact ⟨rfl, .inl rfl⟩)⟩, Keep.push _ _ _, fun a h => (by cases h; exact Nat.le_refl _)⟩
  obtain ⟨y, G, l1, t, rfl, g⟩ := loop_rise (step := law29_page.s1 (n : Int)) (n - m) (fun i y G => ∃ t, y = (t, ()) ∧ t.len = m + i ∧ GrowN [] G 1 t (cellsOf (pl (m + i) fun k => if k < m then co s k else UInt8.ofNat k))) (fun y G => ∃ t, y = (t, ()) ∧ GrowN [] G 1 t (cellsOf (pl n fun k => if k < m then co s k else UInt8.ofNat k)))
    (by
      rintro i _ G hi ⟨t, rfl, ht, g⟩
      left
      have hb : IntKind.wrap .u8 (t.len : Int) = un ((fun k => if k < m then co s k else UInt8.ofNat k) (m + i)) := by
        rw [ht, un_ofNat]
        show _ = un (if m + i < m then _ else _)
        rw [if_neg (by omega)]
      obtain ⟨t', G2, b1, b2, b3, b4, _⟩ := g.one (bytes := 1) (new := [.int .u8 (un ((fun k => if k < m then co s k else UInt8.ofNat k) (m + i)))]) (by decide) rfl (by omega) (by omega)
      rw [← pl_snoc] at b3
      refine ⟨(t', ()), G2, ?_, t', rfl, by omega, b3⟩
      unfold law29_page.s1
      simp only [decide_eq_true (show (t.len : Int) < (n : Int) by omega), cond_t, hb, b1, bind_some, b2])
    (by
      rintro _ G ⟨t, rfl, ht, g⟩
      rw [show m + (n - m) = n by omega] at g ht
      refine ⟨(t, ()), G, ?_, t, rfl, g⟩
      unfold law29_page.s1
      simp only [decide_eq_false (show ¬ (t.len : Int) < (n : Int) by omega), cond_f])
    (y := (⟨some (([] : Heap).length, 0), m, m⟩, ())) (H := [] ++ [Blk.cells (cellsOf (s.take m)) .loose]) ⟨_, rfl, rfl, g0⟩
  simp only [hk, s1', bind_some, hl, l1, str_grown g]

/-! The document's own words. -/
theorem right29_eq (s : Bytes) (n : Nat) (hs : s.length < 1000000) (hn : n < 1000000) : ref29_right s (n : Int) = some (rtB s n, ()) := by
  have horner : ∀ (x : UInt8) (G : Heap), loopW (ref29_right.s1 s (un x, ())) (0, 0, ()) G = some ((un (ev (rv s) x), ()), G) := fun x G => loop_for' s.length (fun i => (un (ev (rv (s.take i)) x), (i : Int), ())) (fun _ => G) rfl rfl (fun i hi => by
      unfold ref29_right.s1
      simp only [decide_eq_true (show (i : Int) < (s.length : Int) by omega), cond_t, ref27_Mul_eq, bind_some, idx_co hi, un_xor, wrap_succ (show i < 9223372036854775807 by omega)]
      rw [take_co hi, rv_snoc, ev]) (by
      unfold ref29_right.s1
      simp only [decide_eq_false (show ¬ ((s.length : Nat) : Int) < (s.length : Int) by omega), cond_f]
      rw [List.take_length])
  have hpow : ∀ i : Nat, i < 1000000 → ref27_Pow 2 (i : Int) = some (un (gp i), ()) := fun i hi => by
    have := ref27_Pow_eq 2 i hi
    rw [gp_gpow] at this
    exact this
  unfold ref29_right ref29_right.on
  obtain ⟨w, G, l1, lw⟩ := loop_rise (step := ref29_right.s2 s (n : Int)) n (fun i y G => y = ((i : Int), ()) ∧ ∀ k, k < i → sg s k = 0) (fun w G => (w = .inl () ∧ rtB s n = true) ∨ (w = .inr (false, ()) ∧ rtB s n = false))
    (by
      rintro i _ G hi ⟨rfl, hk⟩
      by_cases h0 : sg s i = 0
      · left
        refine ⟨_, G, ?_, rfl, fun k hk2 => ?_⟩
        · unfold ref29_right.s2
          simp only [decide_eq_true (show (i : Int) < (n : Int) by omega), cond_t, hpow i (by omega), bind_some, horner]
          rw [show ev (rv s) (gp i) = 0 from h0]
          simp only [show decide (un 0 = 0) = true from rfl, Bool.not_true, cond_f, wrap_succ (show i < 9223372036854775807 by omega)]
        · by_cases e : k = i
          · rw [e]; exact h0
          · exact hk k (by omega)
      · right
        refine ⟨.inr (false, ()), G, ?_, .inr ⟨rfl, decide_eq_false fun h => h0 (h i hi)⟩⟩
        unfold ref29_right.s2
        simp only [decide_eq_true (show (i : Int) < (n : Int) by omega), cond_t, hpow i (by omega), bind_some, horner, decide_eq_false (show ¬ un (ev (rv s) (gp i)) = 0 from fun hh => h0 ((un_zero _).1 hh)), Bool.not_false])
    (by
      rintro _ G ⟨rfl, hk⟩
      refine ⟨.inl (), G, ?_, .inl ⟨rfl, decide_eq_true hk⟩⟩
      unfold ref29_right.s2
      simp only [decide_eq_false (show ¬ ((n : Nat) : Int) < (n : Int) by omega), cond_f])
    (y := (((0 : Nat) : Int), ())) (H := []) ⟨rfl, fun k hk => absurd hk (Nat.not_lt_zero _)⟩
  have l1' : loopW (ref29_right.s2 s (n : Int)) (0, ()) [] = some (w, G) := l1
  rcases lw with ⟨rfl, h⟩ | ⟨rfl, h⟩
  · simp only [l1', bind_some, sumL, h]
  · simp only [l1', bind_some, sumR, h]
set_option maxHeartbeats 1000000 in
theorem kept_eq {s : Bytes} {P W D : Nat} (h : ShOK s.length P W D) (seed : Int) : ref29_Kept s (rawF s W P seed) ((W : Int), (D : Int), (P : Int), ((s.length + W * P : Nat) : Int), ()) seed = some (true, ()) := by
  obtain ⟨w1, w2, w3, w4⟩ := h.wd
  have hrr := h.r
  have hs1 := h.s1
  have hp1 := h.p1
  have hsW := h.sW
  have hsub := h.sub
  have hrl := rawF_len s W P seed
  have htl := tF_len s seed
  have hword : ∀ n, n < W → rtB (pt (rawF s W P seed) W n) P = true := fun n hn => by
    unfold rawF
    rw [raw_word w1 hn (by rw [htl]; exact hsW)]
    exact enc_right _ _
  have hco : ∀ i, i < s.length → co (rawF s W P seed) i = co s i ^^^ co (maskF seed s.length) i := fun i hi => by
    unfold rawF rawT
    rw [htl, co_pl, if_pos (by omega), if_pos hi]
    unfold tF mixF
    rw [maskF_len, Nat.min_self, co_pl, if_pos hi]
  generalize rawF s W P seed = raw at *
  have h1 : ([] ++ [Blk.cells [.int .i64 (W : Int), .int .i64 (D : Int), .int .i64 (P : Int), .int .i64 ((s.length + W * P : Nat) : Int)] .exact] : Heap)[0]? = some (Blk.cells [.int .i64 (W : Int), .int .i64 (D : Int), .int .i64 (P : Int), .int .i64 ((s.length + W * P : Nat) : Int)] .exact) := rfl
  obtain ⟨_, r2, r3, r4⟩ := sh_at h1
  unfold ref29_Kept ref29_Kept.on
  generalize hH1 : ([] ++ [Blk.cells [.int .i64 (W : Int), .int .i64 (D : Int), .int .i64 (P : Int), .int .i64 ((s.length + W * P : Nat) : Int)] .exact] : Heap) = H1 at *
  have hms := refMask_eq seed (s.length : Int) (by omega)
  rw [Int.toNat_natCast] at hms
  have l1 : loopW (ref29_Kept.s1 s raw (maskF seed s.length, ())) (0, ()) H1 = some (.inl (), H1) := loop_for' s.length (fun i => ((i : Int), ())) (fun _ => H1) rfl rfl (fun i hi => by
      have hmi : i < (maskF seed s.length).length := by rw [maskF_len]; exact hi
      unfold ref29_Kept.s1
      simp only [decide_eq_true (show (i : Int) < (s.length : Int) by omega), cond_t, idx_co (show i < raw.length by omega), idx_co hi, idx_co hmi, bind_some, un_xor, hco i hi, decide_true, Bool.not_true, cond_f, wrap_succ (show i < 9223372036854775807 by omega)]) (by
      unfold ref29_Kept.s1
      simp only [decide_eq_false (show ¬ ((s.length : Nat) : Int) < (s.length : Int) by omega), cond_f])
  obtain ⟨x, G, l3, rfl⟩ := loop_rise (step := ref29_Kept.s3 raw []) W (fun n y G => y = ((n : Int), ()) ∧ Keep (fun _ => False) H1 G) (fun x _ => x = .inl ())
    (by
      rintro n _ G hn ⟨rfl, kG⟩
      left
      obtain ⟨_, p2, _, _⟩ := sh_at (kG.get h1 id)
      have hptl : (pt raw W n).length = wl raw.length W n := pt_len _ w1 n
      have hwle : wl raw.length W n ≤ raw.length + W := Nat.le_trans (Nat.div_le_self _ _) (by omega)
      obtain ⟨y, G2, l2, t, rfl, g⟩ := loop_rise (step := ref29_Kept.s2 raw []) (wl raw.length W n) (fun i y G2 => ∃ t, y = (t, ((n + i * W : Nat) : Int), ()) ∧ t.len = i ∧ GrowN G G2 1 t (cellsOf (pl i fun k => co raw (n + k * W)))) (fun y G2 => ∃ t, y = (t, ()) ∧ GrowN G G2 1 t (cellsOf (pt raw W n)))
        (by
          rintro i _ G2 hi ⟨t, rfl, ht, g⟩
          left
          have hlt := (wl_lt w1).1 hi
          obtain ⟨t', G3, b1, b2, b3, b4, _⟩ := g.one (bytes := 1) (new := [.int .u8 (un (co raw (n + i * W)))]) (by decide) rfl (by omega) (by omega)
          rw [← pl_snoc i (fun k => co raw (n + k * W))] at b3
          obtain ⟨_, q2, _, _⟩ := sh_at ((kG.trans b3.keep).get h1 id)
          have hw : IntKind.wrap .i64 (((n + i * W : Nat) : Int) + (W : Int)) = ((n + (i + 1) * W : Nat) : Int) := by
            rw [Nat.succ_mul, wrap_i64 (by omega) (by omega)]; omega
          refine ⟨(t', ((n + (i + 1) * W : Nat) : Int), ()), G3, ?_, t', rfl, by omega, b3⟩
          unfold ref29_Kept.s2
          simp only [List.length_nil, decide_eq_true (show ((n + i * W : Nat) : Int) < (raw.length : Int) by omega), cond_t, idx_co hlt, bind_some, b1, b2, q2, hw])
        (by
          rintro _ G2 ⟨t, rfl, ht, g⟩
          have hge : ¬ n + wl raw.length W n * W < raw.length := fun h => Nat.lt_irrefl _ ((wl_lt w1).2 h)
          have hpt : pl (wl raw.length W n) (fun k => co raw (n + k * W)) = pt raw W n := by
            rw [← pl_co (pt raw W n), hptl]
            exact pl_congr fun k _ => (pt_co _ w1 n k).symm
          rw [hpt] at g
          refine ⟨(t, ()), G2, ?_, t, rfl, g⟩
          unfold ref29_Kept.s2
          simp only [decide_eq_false (show ¬ ((n + wl raw.length W n * W : Nat) : Int) < (raw.length : Int) by omega), cond_f])
        (y := (⟨some (G.length, 0), 0, 0⟩, ((n + 0 * W : Nat) : Int), ())) (H := G ++ [Blk.cells [] .exact]) ⟨_, rfl, rfl, GrowN.em (Keep.refl _ _) 1⟩
      have l2' : loopW (ref29_Kept.s2 raw []) (⟨some (G.length, 0), 0, 0⟩, (n : Int), ()) (G ++ [Blk.cells [] .exact]) = some ((t, ()), G2) := by
        rw [Nat.zero_mul, Nat.add_zero] at l2; exact l2
      obtain ⟨_, _, q3, _⟩ := sh_at ((kG.trans g.keep).get h1 id)
      refine ⟨(((n + 1 : Nat) : Int), ()), G2, ?_, rfl, kG.trans g.keep⟩
      unfold ref29_Kept.s3
      simp only [List.length_nil, p2, bind_some, decide_eq_true (show (n : Int) < (W : Int) by omega), cond_t, l2', str_grown g, q3, right29_eq _ P (show (pt raw W n).length < 1000000 by omega) (by omega), hword n hn, Bool.not_true, cond_f, wrap_succ (show n < 9223372036854775807 by omega)])
    (by
      rintro _ G ⟨rfl, kG⟩
      obtain ⟨_, p2, _, _⟩ := sh_at (kG.get h1 id)
      refine ⟨.inl (), G, ?_, rfl⟩
      unfold ref29_Kept.s3
      simp only [List.length_nil, p2, bind_some, decide_eq_false (show ¬ ((W : Nat) : Int) < (W : Int) by omega), cond_f])
    (y := (((0 : Nat) : Int), ())) (H := H1) ⟨rfl, Keep.refl _ _⟩
  have l3' : loopW (ref29_Kept.s3 raw []) (0, ()) H1 = some (.inl (), G) := l3
  simp only [hH1, List.length_nil, r4, bind_some, hrl, decide_true, Bool.not_true, cond_f, r2, r3, hsub, hms, l1, sumL, l3']
theorem cN_none {L : Nat} {p : Nat → Bool} (h : ∀ k, k < L → p k = false) : cN L p = 0 := by
  unfold cN
  rw [List.filter_eq_nil_iff.2 fun k hk => by rw [h k (List.mem_range.1 hk)]; decide]; rfl
theorem low8 (x : Int) : ∃ n : Nat, n < 256 ∧ bitsI .and .i64 x 255 = (n : Int) := by
  have h := and_ones (k := .i64) (x := x) (m := 255) 8 rfl (by decide)
  exact ⟨(bitsI .and .i64 x 255).toNat, by omega, (Int.toNat_of_nonneg h.1).symm⟩
theorem low4 (x : Int) : ∃ n : Nat, n < 16 ∧ bitsI .and .i64 x 15 = (n : Int) := by
  have h := and_ones (k := .i64) (x := x) (m := 15) 4 rfl (by decide)
  exact ⟨(bitsI .and .i64 x 15).toNat, by omega, (Int.toNat_of_nonneg h.1).symm⟩
set_option maxHeartbeats 1000000 in
theorem WeaveKeeps_true (x0 : Bytes) (x1 x2 : Int) (hx0 : x0.length ≤ 140737488351232) (_ : wfC (.int .i64 x1)) (_ : wfC (.int .i64 x2)) : law29_WeaveKeeps x0 x1 x2 = some (true, ()) := by
  obtain ⟨m, m1, hm⟩ := low8 x1
  obtain ⟨q, q1, hq⟩ := low4 (Int.fdiv x1 (2 ^ (min (Int.toNat 8) (IntKind.bits .i64))))
  have hsz : IntKind.wrap .i64 (1 + bitsI .and .i64 x1 255) = ((m + 1 : Nat) : Int) := by rw [hm, wrap_i64 (by omega) (by omega)]; omega
  have hpa : IntKind.wrap .i64 (2 + bitsI .and .i64 (Int.fdiv x1 (2 ^ (min (Int.toNat 8) (IntKind.bits .i64)))) 15) = ((q + 2 : Nat) : Int) := by rw [hq, wrap_i64 (by omega) (by omega)]; omega
  have hpl := pgF_len x0 (m + 1)
  have hpe := page_eq x0 (m + 1) hx0 (by omega)
  generalize hs : pgF x0 (m + 1) = s at hpl hpe
  have hsh := shapeOf_ok (s := m + 1) (P := q + 2) (by omega) (by omega) (by omega) (by omega)
  have hok : ShOK s.length (q + 2) (shW (m + 1) (q + 2)) (dat (m + 1) (shW (m + 1) (q + 2))) := by
    rw [hpl]; exact shOK_of (by omega) (by omega) (by omega) (by omega)
  unfold shF at hsh
  generalize shW (m + 1) (q + 2) = W at hsh hok
  generalize dat (m + 1) W = D at hsh hok
  generalize hP : q + 2 = P at hsh hok hpa
  rw [← hpl] at hsh
  obtain ⟨H3, w1, w2, w3⟩ := sh_wr (a1 := (W : Int)) (a2 := (D : Int)) (a3 := (P : Int)) (a4 := ((s.length + W * P : Nat) : Int)) (show (([] : Heap) ++ [Blk.cells [.int .i64 0, .int .i64 0, .int .i64 0, .int .i64 0] .exact])[0]? = some (Blk.cells [.int .i64 0, .int .i64 0, .int .i64 0, .int .i64 0] .exact) from rfl)
  obtain ⟨r1, _, _, _⟩ := sh_at w2
  have hen := wencode_eq hok x2
  rw [shT_eq] at hen
  have hrl := rawF_len s W P x2
  have hz : ∀ n, n < W → 2 * (cN (wl (s.length + W * P) W n) fun k => co (rawF s W P x2) (n + k * W) != co (rawF s W P x2) (n + k * W) && !false) + (cN (wl (s.length + W * P) W n) fun _ => false) ≤ P := fun n _ => by
    rw [cN_none fun k _ => by simp, cN_none fun k _ => rfl]; omega
  obtain ⟨G, k1, d1⟩ := wback (rowNil H3) (by show 0 < 100000; omega) hok x2 hrl (fun _ => false) (fun k _ => ⟨fun h => absurd h (by decide), fun h => absurd h List.not_mem_nil⟩) hz
  rw [cN_none fun k _ => by simp, shT_eq] at d1
  obtain ⟨r2, _, _, _⟩ := sh_at (k1.get w2 id)
  have hse : (s ++ [120]).length ≠ s.length := by simp
  have hee := wencode_no (s := s ++ [120]) hok x2 hse
  rw [shT_eq] at hee
  have hrr := hok.r
  have c1 : catS s [120] = some (s ++ [120]) := cat_of (by show s.length + 1 ≤ _; omega)
  have c2 : catS (rawF s W P x2) [120] = some (rawF s W P x2 ++ [120]) := cat_of (by show (rawF s W P x2).length + 1 ≤ _; omega)
  obtain ⟨G2, d2, k2⟩ := wdecode_no (H := G) (x3 := ⟨none, 0, 0⟩) (raw := rawF s W P x2 ++ [120]) hok x2 (by rw [List.length_append, hrl]; show _ + 1 ≠ _; omega)
  rw [shT_eq] at d2
  obtain ⟨r3, _, _, _⟩ := sh_at ((k1.trans k2).get w2 id)
  have hke := kept_eq hok x2
  unfold law29_WeaveKeeps law29_WeaveKeeps.on
  simp only [hsz, hpa, hpe]
  rw [show ((m + 1 : Nat) : Int) = (s.length : Int) by rw [hpl], hsh]
  simp only [bind_some, shT, List.length_nil, w1, awake29_eq, Bool.not_true, cond_f, r1, hen, d1, c1, r2, hee, c2, d2, decide_true, cond_t, r3, hke]
  rfl
end Ev
