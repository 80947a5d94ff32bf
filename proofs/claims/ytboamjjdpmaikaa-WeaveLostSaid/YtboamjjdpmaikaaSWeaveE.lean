/- Weaving: words, and how a page is kept. -/
import Derived.Test.YtboamjjdpmaikaaSWeave
namespace Ev
open Go (IntKind)

/-! Words. -/
def pt (s : Bytes) (W n : Nat) : Bytes := partL s W s.length n
def wl (L W n : Nat) : Nat := (L - n + W - 1) / W
theorem partL_co (s : Bytes) (W : Nat) (hW : 1 ≤ W) : ∀ (f i : Nat), s.length ≤ i + f → (partL s W f i).length = wl s.length W i ∧ ∀ k, co (partL s W f i) k = co s (i + k * W)
  | 0, i, h => by
    have h0 : s.length - i = 0 := by omega
    refine ⟨?_, fun k => ?_⟩
    · show 0 = _
      unfold wl
      rw [h0, Nat.zero_add, Nat.div_eq_of_lt (by omega)]
    · rw [co_ge (p := s) (by omega)]; exact co_ge (Nat.zero_le _)
  | f + 1, i, h => by
    rw [partL]
    by_cases hi : i < s.length
    · obtain ⟨h1, h2⟩ := partL_co s W hW f (i + W) (by omega)
      rw [if_pos hi]
      refine ⟨?_, fun k => ?_⟩
      · rw [List.length_cons, h1]
        unfold wl
        by_cases hw : i + W ≤ s.length
        · rw [show s.length - i + W - 1 = (s.length - (i + W) + W - 1) + W by omega, Nat.add_div_right _ (by omega)]
        · rw [show s.length - (i + W) = 0 by omega, Nat.zero_add, Nat.div_eq_of_lt (show W - 1 < W by omega)]
          rw [show s.length - i + W - 1 = (s.length - i - 1) + W by omega, Nat.add_div_right _ (by omega), Nat.div_eq_of_lt (by omega)]
      · cases k with
        | zero => rw [Nat.zero_mul, Nat.add_zero]; rfl
        | succ k =>
          rw [Nat.succ_mul, show i + (k * W + W) = i + W + k * W by omega, ← h2 k]; rfl
    · rw [if_neg hi]
      refine ⟨?_, fun k => ?_⟩
      · show 0 = _
        unfold wl
        rw [show s.length - i = 0 by omega, Nat.zero_add, Nat.div_eq_of_lt (by omega)]
      · rw [co_ge (p := s) (by omega)]; exact co_ge (Nat.zero_le _)
theorem pt_len (s : Bytes) {W : Nat} (hW : 1 ≤ W) (n : Nat) : (pt s W n).length = wl s.length W n := (partL_co s W hW s.length n (by omega)).1
theorem pt_co (s : Bytes) {W : Nat} (hW : 1 ≤ W) (n k : Nat) : co (pt s W n) k = co s (n + k * W) := (partL_co s W hW s.length n (by omega)).2 k
theorem part_eq {s : Bytes} {W : Nat} (D P R : Int) {n : Nat} (hs : s.length ≤ 1099511627776) (hW : 1 ≤ W) (hW2 : W ≤ 1099511627776) (hn : n ≤ 1099511627776) : weave_part s ((W : Int), D, P, R, ()) (n : Int) = some (pt s W n, ()) := by
  unfold weave_part
  have hd : decide (s.length ≤ 1099511627776 ∧ 1 ≤ ((W : Int), D, P, R, ()).1 ∧ ((W : Int), D, P, R, ()).1 ≤ 1099511627776 ∧ 0 ≤ (n : Int) ∧ (n : Int) ≤ 1099511627776) = true := decide_eq_true ⟨hs, by show (1 : Int) ≤ (W : Int); omega, by show (W : Int) ≤ _; omega, by omega, by omega⟩
  rw [hd, cond_t]; rfl
theorem wl_le {L W n : Nat} : wl L W n ≤ dat L W := Nat.div_le_div_right (by omega)
theorem wl_pos {L W n : Nat} (hW : 1 ≤ W) (h : n < L) : 1 ≤ wl L W n := by
  unfold wl
  rw [show L - n + W - 1 = (L - n - 1) + W by omega, Nat.add_div_right _ (by omega)]
  exact Nat.le_add_left 1 _
/-- A place of a word: is it one of the page? -/
theorem wl_lt {L W n k : Nat} (hW : 1 ≤ W) : k < wl L W n ↔ n + k * W < L := by
  unfold wl
  rw [show (k < (L - n + W - 1) / W ↔ n + k * W < L) = (k + 1 ≤ (L - n + W - 1) / W ↔ n + k * W < L) from rfl, Nat.le_div_iff_mul_le (by omega), Nat.succ_mul]
  omega
theorem wl_add {L W n : Nat} (P : Nat) (hW : 1 ≤ W) (h : n < L) : wl (L + W * P) W n = wl L W n + P := by
  unfold wl
  rw [show L + W * P - n + W - 1 = (L - n + W - 1) + W * P by omega, Nat.add_mul_div_left _ _ (by omega)]

/-! How a page is kept. -/
def tF (s : Bytes) (seed : Int) : Bytes := mixF s (maskF seed s.length)
theorem tF_len (s : Bytes) (seed : Int) : (tF s seed).length = s.length := by unfold tF; rw [mixF_len, maskF_len, Nat.min_self]
def tlB (t : Bytes) (W P : Nat) (i : Nat) : UInt8 := co (tailF (pt t W ((t.length + i) % W)) P) (i / W)
def rawT (t : Bytes) (W P : Nat) : Bytes := pl (t.length + W * P) fun k => if k < t.length then co t k else tlB t W P (k - t.length)
def rawF (s : Bytes) (W P : Nat) (seed : Int) : Bytes := rawT (tF s seed) W P
theorem rawT_len (t : Bytes) (W P : Nat) : (rawT t W P).length = t.length + W * P := pl_len _ _
theorem rawF_len (s : Bytes) (W P : Nat) (seed : Int) : (rawF s W P seed).length = s.length + W * P := by unfold rawF; rw [rawT_len, tF_len]
/-- Each word of it is a text with its bytes that check. -/
theorem raw_word {t : Bytes} {W P n : Nat} (hW : 1 ≤ W) (hn : n < W) (hs : W ≤ t.length) : pt (rawT t W P) W n = encF (pt t W n) P := by
  have hl1 : (pt (rawT t W P) W n).length = wl t.length W n + P := by rw [pt_len _ hW, rawT_len, wl_add P hW (by omega)]
  have hl2 : (encF (pt t W n) P).length = wl t.length W n + P := by rw [enc_len, pt_len _ hW]
  rw [← pl_co (pt (rawT t W P) W n), ← pl_co (encF (pt t W n) P), hl1, hl2]
  refine pl_congr fun k hk => ?_
  rw [pt_co _ hW]
  unfold encF
  rw [co_app, pt_len _ hW]
  unfold rawT
  have hlt : n + k * W < t.length + W * P := by
    have := (wl_lt (L := t.length + W * P) (n := n) (k := k) hW).1 (by rw [wl_add P hW (by omega)]; exact hk)
    exact this
  rw [co_pl, if_pos hlt]
  by_cases h : k < wl t.length W n
  · rw [if_pos ((wl_lt hW).1 h), if_pos h, pt_co _ hW]
  · rw [if_neg fun h2 => h ((wl_lt hW).2 h2), if_neg h]
    have h3 : ¬ n + k * W < t.length := fun h2 => h ((wl_lt hW).2 h2)
    unfold tlB
    rw [show t.length + (n + k * W - t.length) = n + k * W by omega, Nat.add_mul_mod_self_right, Nat.mod_eq_of_lt hn]
    congr 1
    -- where it stands behind the page
    have h4 : wl t.length W n * W ≤ t.length - n + W - 1 := Nat.div_mul_le_self _ _
    have h5 : ¬ n + wl t.length W n * W < t.length := fun h2 => Nat.lt_irrefl _ ((wl_lt hW).2 h2)
    obtain ⟨d, rfl⟩ : ∃ d, k = wl t.length W n + d := ⟨k - wl t.length W n, by omega⟩
    generalize wl t.length W n = m at *
    rw [Nat.add_mul, show n + (m * W + d * W) - t.length = (n + m * W - t.length) + d * W by omega, Nat.add_mul_div_right _ _ (by omega), Nat.div_eq_of_lt (by omega), Nat.zero_add, Nat.add_sub_cancel_left]
/-! In the heap. -/
def SAt (H : Heap) (c n : Nat) (f : Nat → Bytes) : Prop := H[c]? = some (.cells (arrC n fun k => [.str (f k)]) .exact)
theorem SAt.get {H : Heap} {c n : Nat} {f : Nat → Bytes} (h : SAt H c n f) {i : Nat} (hi : i < n) : rdS H c i = some (f i) := by
  have := arrC_get (f := fun k => [C.str (f k)]) (es := 1) (fun _ => rfl) (j := 0) (by decide) hi
  rw [Nat.mul_one, Nat.add_zero] at this
  exact rdS_of h this
theorem SAt.set {H : Heap} {c n : Nat} {f : Nat → Bytes} (h : SAt H c n f) {i : Nat} (hi : i < n) (x : Bytes) : ∃ G, wr H c i [.str x] = some G ∧ SAt G c n (fun k => if k = i then x else f k) ∧ Keep (fun j => j = c) H G := by
  have hl := arrC_length (f := fun k => [C.str (f k)]) (es := 1) (fun _ => rfl) n
  have hs := arrC_set (f := fun k => [C.str (f k)]) (es := 1) (fun _ => rfl) (j := 0) (by decide) (.str x) hi
  rw [Nat.mul_one, Nat.add_zero] at hs
  refine ⟨_, wr1_of h (by decide) (by omega), ?_, Keep.set _ _ _ rfl⟩
  unfold SAt
  rw [set_get (get_lt h), hs]
  congr 2
  refine arrC_congr fun k _ => ?_
  by_cases hk : k = i
  · subst hk; simp
  · simp [hk]
theorem SAt.congr {H : Heap} {c n : Nat} {f g : Nat → Bytes} (h : SAt H c n f) (hfg : ∀ k, k < n → f k = g k) : SAt H c n g := by
  unfold SAt at h ⊢
  rw [h]
  congr 2
  exact arrC_congr fun k hk => by rw [hfg k hk]
theorem mk_strs {H : Heap} {n : Nat} (h : n ≤ 1099511627776) : mkS H 16 [.str []] (n : Int) (n : Int) = some (⟨some (H.length, 0), n, n⟩, H ++ [.cells (arrC n fun _ => [.str []]) .exact]) := by
  unfold mkS
  have : decide (0 ≤ (n : Int) ∧ (n : Int) ≤ (n : Int) ∧ (n : Int).toNat * 16 ≤ maxRow ∧ (n : Int).toNat ≤ maxRow) = true := decide_eq_true ⟨by omega, by omega, by unfold maxRow; omega, by unfold maxRow; omega⟩
  rw [this, cond_t, Int.toNat_natCast]
  have : rep n [C.str []] = arrC n fun _ => [.str []] := by
    unfold rep
    clear h this
    induction n with
    | zero => rfl
    | succ n ih => rw [List.replicate_succ', List.flatten_append, ih, arrC]; rfl
  rw [this]
theorem mk_bytes0 {H : Heap} {n : Nat} (h : n ≤ 35184372088832) : mkS H 1 [.int .u8 0] 0 (n : Int) = some (⟨some (H.length, 0), 0, n⟩, H ++ [.cells (arrC n fun _ => [.int .u8 (un 0)]) .exact]) := by
  have h1 := mk_bytes (H := H) h
  unfold mkS at h1 ⊢
  have : decide (0 ≤ (n : Int) ∧ (n : Int) ≤ (n : Int) ∧ (n : Int).toNat * 1 ≤ maxRow ∧ (n : Int).toNat ≤ maxRow) = true := decide_eq_true ⟨by omega, by omega, by unfold maxRow; omega, by unfold maxRow; omega⟩
  rw [this, cond_t] at h1
  have : decide ((0 : Int) ≤ 0 ∧ (0 : Int) ≤ (n : Int) ∧ (n : Int).toNat * 1 ≤ maxRow ∧ (n : Int).toNat ≤ maxRow) = true := decide_eq_true ⟨by omega, by omega, by unfold maxRow; omega, by unfold maxRow; omega⟩
  rw [this, cond_t]
  have h2 := Option.some.inj h1
  have h3 := (Prod.mk.inj h2).2
  rw [h3]; rfl
theorem setL_bytes : ∀ (t : Bytes) (o n : Nat) (f : Nat → UInt8), o + t.length ≤ n → setL (arrC n fun k => [.int .u8 (un (f k))]) o (cellsOf t) = arrC n fun k => [.int .u8 (un (if o ≤ k ∧ k < o + t.length then co t (k - o) else f k))]
  | [], o, n, f, _ => by
    show arrC n _ = _
    refine arrC_congr fun k _ => ?_
    rw [if_neg (by simp)]
  | c :: r, o, n, f, h => by
    rw [List.length_cons] at h
    have hset := arrC_set (f := fun k => [C.int .u8 (un (f k))]) (es := 1) (fun _ => rfl) (j := 0) (by decide) (.int .u8 (un c)) (show o < n by omega)
    rw [Nat.mul_one, Nat.add_zero] at hset
    show setL ((arrC n fun k => [.int .u8 (un (f k))]).set o (.int .u8 (un c))) (o + 1) (cellsOf r) = _
    rw [hset]
    have hf : (arrC n fun k => if k = o then ([C.int .u8 (un (f o))] : List C).set 0 (.int .u8 (un c)) else [.int .u8 (un (f k))]) = arrC n fun k => [.int .u8 (un (if k = o then c else f k))] := arrC_congr fun k _ => by
      by_cases e : k = o
      · rw [if_pos e, if_pos e]; rfl
      · rw [if_neg e, if_neg e]
    rw [hf, setL_bytes r (o + 1) n _ (by omega)]
    refine arrC_congr fun k _ => ?_
    congr 3
    rw [List.length_cons]
    by_cases h1 : k = o
    · subst h1
      rw [if_neg (by omega), if_pos rfl, if_pos (by omega), Nat.sub_self]; rfl
    · by_cases h2 : o + 1 ≤ k ∧ k < o + 1 + r.length
      · rw [if_pos h2, if_pos (by omega), show k - o = (k - (o + 1)) + 1 by omega]; rfl
      · rw [if_neg h2, if_neg h1, if_neg (by omega)]
/-- One byte more, in place. -/
theorem bat_app {G : Heap} {c n m : Nat} {f : Nat → UInt8} (h : BAt G c n f) (hm : m < n) (x : UInt8) : ∃ G2, slRow (G ++ [Blk.cells [.int .u8 (un x)] .exact]) 1 ⟨some (G.length, 0), 1, 1⟩ = some [.int .u8 (un x)] ∧ appS (G ++ [Blk.cells [.int .u8 (un x)] .exact]) 1 1 ⟨some (c, 0), m, n⟩ 1 [.int .u8 (un x)] = some (⟨some (c, 0), m + 1, n⟩, G2) ∧ BAt G2 c n (fun k => if k = m then x else f k) ∧ Keep (fun j => j = c) G G2 := by
  have h' : BAt (G ++ [Blk.cells [.int .u8 (un x)] .exact]) c n f := h.keep (Keep.push (fun _ => False) G _) id
  obtain ⟨G2, a1, a2, a3⟩ := h'.set hm x
  refine ⟨G2, row_last rfl, ?_, a2, (Keep.push _ _ _).trans a3⟩
  unfold appS
  rw [decide_eq_true (show (⟨some (c, 0), m, n⟩ : Sl).len + 1 ≤ (⟨some (c, 0), m, n⟩ : Sl).cap from hm), cond_t]
  show (bif decide (1 = 0) then _ else _) = _
  rw [show decide ((1 : Nat) = 0) = false from rfl, cond_f]
  show (wr _ c (0 + m * 1) _).bind _ = _
  rw [show 0 + m * 1 = m by omega, a1]; rfl
set_option maxHeartbeats 1000000 in
theorem wencode_eq {s : Bytes} {P W D : Nat} (h : ShOK s.length P W D) (seed : Int) : weave_Encode s (shT W D P (s.length + W * P)) seed = some (rawF s W P seed, 0, ()) := by
  obtain ⟨w1, w2, w3, w4⟩ := h.wd
  have hr := h.r
  have hs0 := h.s0
  have hs1 := h.s1
  have hp0 := h.p0
  have hp1 := h.p1
  have hsW := h.sW
  have hsub := h.sub
  have hfit := fits_ok h
  have htl := tF_len s seed
  unfold rawF
  unfold weave_Encode weave_Encode.on
  have hsh : ∀ {G : Heap}, G[0]? = some (Blk.cells [.int .i64 (W : Int), .int .i64 (D : Int), .int .i64 (P : Int), .int .i64 ((s.length + W * P : Nat) : Int)] .exact) → _ := fun {G} h => sh_at h
  have h1 : ([] ++ [Blk.cells [.int .i64 (W : Int), .int .i64 (D : Int), .int .i64 (P : Int), .int .i64 ((s.length + W * P : Nat) : Int)] .exact] : Heap)[0]? = some (Blk.cells [.int .i64 (W : Int), .int .i64 (D : Int), .int .i64 (P : Int), .int .i64 ((s.length + W * P : Nat) : Int)] .exact) := rfl
  obtain ⟨r1, r2, r3, r4⟩ := hsh h1
  have hmk := mk_bytes0 (H := [Blk.cells [.int .i64 (W : Int), .int .i64 (D : Int), .int .i64 (P : Int), .int .i64 ((s.length + W * P : Nat) : Int)] .exact]) (n := s.length + W * P) (by omega)
  have hmx : weave_Mix s (maskF seed s.length) = some (tF s seed, ()) := mix_eq _ _ (by omega) (by rw [maskF_len]; omega)
  have hms := mask_eq seed (s.length : Int) (by omega)
  rw [Int.toNat_natCast] at hms
  generalize ht : tF s seed = t at *
  simp only [List.nil_append] at r1 r2 r3 r4
  simp only [shT, List.nil_append, List.length_nil, r1, bind_some]
  rw [show weave_fits ((W : Int), (D : Int), (P : Int), ((s.length + W * P : Nat) : Int), ()) = some (true, ()) from hfit]
  simp only [bind_some, Bool.not_true, cond_f, r2, r3, r4, hsub, decide_true, hms, hmx, hmk, List.length_singleton]
  -- the page's bytes, laid
  have ha : appS ([Blk.cells [.int .i64 (W : Int), .int .i64 (D : Int), .int .i64 (P : Int), .int .i64 ((s.length + W * P : Nat) : Int)] .exact] ++ [Blk.cells (arrC (s.length + W * P) fun _ => [.int .u8 (un 0)]) .exact]) 1 1 ⟨some (1, 0), 0, s.length + W * P⟩ t.length (cellsOf t) = some (⟨some (1, 0), t.length, s.length + W * P⟩, [Blk.cells [.int .i64 (W : Int), .int .i64 (D : Int), .int .i64 (P : Int), .int .i64 ((s.length + W * P : Nat) : Int)] .exact, Blk.cells (arrC (s.length + W * P) fun k => [.int .u8 (un (if k < t.length then co t k else 0))]) .exact]) := by
    unfold appS
    rw [decide_eq_true (show (⟨some (1, 0), 0, s.length + W * P⟩ : Sl).len + t.length ≤ (⟨some (1, 0), 0, s.length + W * P⟩ : Sl).cap by show 0 + t.length ≤ s.length + W * P; omega), cond_t]
    show (bif decide (t.length = 0) then _ else _) = _
    rw [decide_eq_false (show ¬ t.length = 0 by omega), cond_f]
    show (wr _ 1 (0 + 0 * 1) _).bind _ = _
    have hsl := setL_bytes t 0 (s.length + W * P) (fun _ => 0) (by omega)
    have hal := arrC_length (f := fun k => [C.int .u8 (un 0)]) (es := 1) (fun _ => rfl) (s.length + W * P)
    have hw := wr_of (H := [Blk.cells [.int .i64 (W : Int), .int .i64 (D : Int), .int .i64 (P : Int), .int .i64 ((s.length + W * P : Nat) : Int)] .exact] ++ [Blk.cells (arrC (s.length + W * P) fun _ => [.int .u8 (un 0)]) .exact]) (b := 1) (o := 0) (new := cellsOf t) rfl (show BK.exact ≠ .ro by decide) (by rw [cells_len, hal]; omega)
    rw [hw, hsl]
    show some ((⟨some (1, 0), 0 + t.length, s.length + W * P⟩ : Sl), _) = _
    rw [Nat.zero_add]
    refine congrArg some (Prod.ext rfl ?_)
    show [_, Blk.cells _ _] = [_, Blk.cells _ _]
    congr 3
    refine arrC_congr fun k _ => ?_
    rw [Nat.sub_zero]
    congr 3
    by_cases hk : k < t.length
    · rw [if_pos hk, if_pos ⟨Nat.zero_le _, hk⟩]
    · rw [if_neg hk, if_neg fun x => hk x.2]
  simp only [ha, bind_some]
  have h2 : ([Blk.cells [.int .i64 (W : Int), .int .i64 (D : Int), .int .i64 (P : Int), .int .i64 ((s.length + W * P : Nat) : Int)] .exact, Blk.cells (arrC (s.length + W * P) fun k => [.int .u8 (un (if k < t.length then co t k else 0))]) .exact] : Heap)[0]? = some (Blk.cells [.int .i64 (W : Int), .int .i64 (D : Int), .int .i64 (P : Int), .int .i64 ((s.length + W * P : Nat) : Int)] .exact) := rfl
  have hb2 : BAt [Blk.cells [.int .i64 (W : Int), .int .i64 (D : Int), .int .i64 (P : Int), .int .i64 ((s.length + W * P : Nat) : Int)] .exact, Blk.cells (arrC (s.length + W * P) fun k => [.int .u8 (un (if k < t.length then co t k else 0))]) .exact] 1 (s.length + W * P) (fun k => if k < t.length then co t k else 0) := rfl
  obtain ⟨_, r5, _, _⟩ := hsh h2
  generalize hH2 : ([Blk.cells [.int .i64 (W : Int), .int .i64 (D : Int), .int .i64 (P : Int), .int .i64 ((s.length + W * P : Nat) : Int)] .exact, Blk.cells (arrC (s.length + W * P) fun k => [.int .u8 (un (if k < t.length then co t k else 0))]) .exact] : Heap) = H2 at *
  have hl2 : H2.length = 2 := by rw [← hH2]; rfl
  have hmk2 := mk_strs (H := H2) (n := W) (by omega)
  rw [hl2] at hmk2
  simp only [r5, bind_some, hmk2]
  have hs3 : SAt (H2 ++ [Blk.cells (arrC W fun _ => [.str []]) .exact]) 2 W (fun _ => []) := by
    unfold SAt
    rw [← hl2]; exact app_last
  have hk3 : Keep (fun _ => False) H2 (H2 ++ [Blk.cells (arrC W fun _ => [.str []]) .exact]) := Keep.push _ _ _
  obtain ⟨x, G, l1, rfl, g1, g2, g3⟩ := loop_rise (step := weave_Encode.s1 [] (t, ()) (⟨some (2, 0), W, W⟩, H2 ++ [Blk.cells (arrC W fun _ => [.str []]) .exact])) W
    (fun i y G => y = ((i : Int), ()) ∧ G[0]? = some (Blk.cells [.int .i64 (W : Int), .int .i64 (D : Int), .int .i64 (P : Int), .int .i64 ((s.length + W * P : Nat) : Int)] .exact) ∧ BAt G 1 (s.length + W * P) (fun k => if k < t.length then co t k else 0) ∧ SAt G 2 W fun k => if k < i then tailF (pt t W k) P else [])
    (fun x G => x = .inl () ∧ G[0]? = some (Blk.cells [.int .i64 (W : Int), .int .i64 (D : Int), .int .i64 (P : Int), .int .i64 ((s.length + W * P : Nat) : Int)] .exact) ∧ BAt G 1 (s.length + W * P) (fun k => if k < t.length then co t k else 0) ∧ SAt G 2 W fun k => tailF (pt t W k) P)
    (by
      rintro i _ G hi ⟨rfl, g1, g2, g3⟩
      left
      obtain ⟨q1, _, q3, _⟩ := hsh g1
      obtain ⟨G2, a1, a2, a3⟩ := g3.set hi (tailF (pt t W i) P)
      have hptl : (pt t W i).length = wl s.length W i := by rw [pt_len _ w1, htl]
      have hle := wl_le (L := s.length) (W := W) (n := i)
      rw [← h.d] at hle
      have hpos := wl_pos (L := s.length) (n := i) w1 (by omega)
      have hen := encode_ok (pt t W i) P (by omega) (by omega) hp1 (by omega) (by omega)
      have hel := enc_len (pt t W i) P
      have hw : IntKind.wrap .i64 (((encF (pt t W i) P).length : Int) - (P : Int)) = (((pt t W i).length : Nat) : Int) := by rw [wrap_i64 (by omega) (by omega)]; omega
      have hsu := sub_of (s := encF (pt t W i) P) (lo := (pt t W i).length) (hi := (encF (pt t W i) P).length) (by omega) (Nat.le_refl _)
      rw [List.take_length] at hsu
      have hdr : (encF (pt t W i) P).drop (pt t W i).length = tailF (pt t W i) P := by unfold encF; exact List.drop_left
      rw [hdr] at hsu
      refine ⟨(((i + 1 : Nat) : Int), ()), G2, ?_, rfl, a3.get g1 (fun h => absurd h (by decide)), a3.get g2 (fun h => absurd h (by decide)), a2.congr fun k hk => ?_⟩
      · unfold weave_Encode.s1
        simp only [List.length_nil, decide_eq_true (show (i : Int) < (W : Int) by omega), cond_t, q1, bind_some, part_eq (D : Int) (P : Int) ((s.length + W * P : Nat) : Int) (show t.length ≤ 1099511627776 by omega) w1 (by omega) (show i ≤ 1099511627776 by omega), q3, hen, decide_true, Bool.not_true, cond_f, hw, hsu, BAt.at hi, a1, wrap_succ (show i < 9223372036854775807 by omega)]
      · by_cases e : k = i
        · rw [if_pos e, if_pos (by omega), e]
        · rw [if_neg e]
          by_cases h2 : k < i
          · rw [if_pos h2, if_pos (by omega)]
          · rw [if_neg h2, if_neg (by omega)])
    (by
      rintro _ G ⟨rfl, g1, g2, g3⟩
      refine ⟨.inl (), G, ?_, rfl, g1, g2, g3.congr fun k hk => by rw [if_pos hk]⟩
      unfold weave_Encode.s1
      simp only [decide_eq_false (show ¬ ((W : Nat) : Int) < (W : Int) by omega), cond_f])
    (y := (((0 : Nat) : Int), ())) (H := H2 ++ [Blk.cells (arrC W fun _ => [.str []]) .exact]) ⟨rfl, hk3.get h2 id, hk3.get hb2 id, hs3.congr fun k _ => by rw [if_neg (Nat.not_lt_zero _)]⟩
  have l1' : loopW (weave_Encode.s1 [] (t, ()) (⟨some (2, 0), W, W⟩, H2 ++ [Blk.cells (arrC W fun _ => [.str []]) .exact])) (0, ()) (H2 ++ [Blk.cells (arrC W fun _ => [.str []]) .exact]) = some (.inl (), G) := l1
  obtain ⟨_, r6, r7, _⟩ := hsh g1
  simp only [l1', bind_some, sumL, r6, r7]
  have hWP : IntKind.wrap .i64 ((W : Int) * (P : Int)) = ((W * P : Nat) : Int) := by
    have hmul : (W : Int) * (P : Int) = ((W * P : Nat) : Int) := (Int.natCast_mul W P).symm
    rw [hmul, wrap_i64 (by omega) (by omega)]
  obtain ⟨y, G', l2, rfl, e1⟩ := loop_rise (step := weave_Encode.s2 s [] (⟨some (2, 0), W, W⟩, H2 ++ [Blk.cells (arrC W fun _ => [.str []]) .exact]) (W : Int) (P : Int)) (W * P)
    (fun i y G => y = (⟨some (1, 0), t.length + i, s.length + W * P⟩, (i : Int), ()) ∧ G[0]? = some (Blk.cells [.int .i64 (W : Int), .int .i64 (D : Int), .int .i64 (P : Int), .int .i64 ((s.length + W * P : Nat) : Int)] .exact) ∧ BAt G 1 (s.length + W * P) (fun k => if k < t.length + i then (if k < t.length then co t k else tlB t W P (k - t.length)) else 0) ∧ SAt G 2 W fun k => tailF (pt t W k) P)
    (fun y G => y = (⟨some (1, 0), t.length + W * P, s.length + W * P⟩, ()) ∧ BAt G 1 (s.length + W * P) (fun k => if k < t.length then co t k else tlB t W P (k - t.length)))
    (by
      rintro i _ G hi ⟨rfl, g1, g2, g3⟩
      left
      obtain ⟨_, q2, _, _⟩ := hsh g1
      have hmod : (t.length + i) % W < W := Nat.mod_lt _ (by omega)
      have hdiv : i / W < P := Nat.div_lt_of_lt_mul hi
      have htm : Int.tmod (IntKind.wrap .i64 ((s.length : Int) + (i : Int))) (W : Int) = (((t.length + i) % W : Nat) : Int) := by
        rw [wrap_i64 (by omega) (by omega), show (s.length : Int) + (i : Int) = ((t.length + i : Nat) : Int) by omega]; rfl
      have htd : IntKind.wrap .i64 (Int.tdiv (i : Int) (W : Int)) = ((i / W : Nat) : Int) := by
        rw [tdiv_nat]
        generalize i / W = z at hdiv
        exact wrap_i64 (by omega) (by omega)
      have htll : (tailF (pt t W ((t.length + i) % W)) P).length = P := pl_len _ _
      have hidx : idxS (tailF (pt t W ((t.length + i) % W)) P) ((i / W : Nat) : Int) = some (un (tlB t W P i)) := by
        rw [idx_of (by omega)]
        unfold tlB
        rw [co_lt (by omega)]
      obtain ⟨G2, a1, a2, a3, a4⟩ := bat_app g2 (m := t.length + i) (by omega) (tlB t W P i)
      refine ⟨(⟨some (1, 0), t.length + (i + 1), s.length + W * P⟩, ((i + 1 : Nat) : Int), ()), G2, ?_, rfl, a4.get g1 (fun h => absurd h (by decide)), a3.congr fun k hk => ?_, a4.get g3 (fun h => absurd h (by decide))⟩
      · unfold weave_Encode.s2
        simp only [List.length_nil, hWP, decide_eq_true (show (i : Int) < ((W * P : Nat) : Int) by omega), cond_t, q2, bind_some, decide_eq_false (show ¬ (W : Int) = 0 by omega), cond_f, htm, BAt.at hmod, g3.get hmod, htd, hidx, a1, a2, wrap_succ (show i < 9223372036854775807 by omega)]
        rfl
      · by_cases e : k = t.length + i
        · subst e
          rw [if_pos rfl, if_pos (show t.length + i < t.length + (i + 1) by omega), if_neg (show ¬ t.length + i < t.length by omega), Nat.add_sub_cancel_left]
        · rw [if_neg e]
          by_cases h2 : k < t.length + i
          · rw [if_pos h2, if_pos (show k < t.length + (i + 1) by omega)]
          · rw [if_neg h2, if_neg (show ¬ k < t.length + (i + 1) by omega)])
    (by
      rintro _ G ⟨rfl, g1, g2, g3⟩
      refine ⟨_, G, ?_, rfl, g2.congr fun k hk => by rw [if_pos (by omega)]⟩
      unfold weave_Encode.s2
      simp only [hWP, decide_eq_false (show ¬ ((W * P : Nat) : Int) < ((W * P : Nat) : Int) by omega), cond_f])
    (y := (⟨some (1, 0), t.length + 0, s.length + W * P⟩, ((0 : Nat) : Int), ())) (H := G) ⟨rfl, g1, g2.congr fun k hk => by
      by_cases h : k < t.length
      · rw [if_pos h, if_pos (by omega)]
        rw [if_pos h]
      · rw [if_neg h, if_neg (by omega)], g3⟩
  have l2' : loopW (weave_Encode.s2 s [] (⟨some (2, 0), W, W⟩, H2 ++ [Blk.cells (arrC W fun _ => [.str []]) .exact]) (W : Int) (P : Int)) (⟨some (1, 0), t.length, s.length + W * P⟩, 0, ()) G = some ((⟨some (1, 0), t.length + W * P, s.length + W * P⟩, ()), G') := l2
  simp only [l2', bind_some]
  have hso : strOf G' ⟨some (1, 0), t.length + W * P, s.length + W * P⟩ = some (rawT t W P) := by
    rw [htl]
    rw [strOf_exact e1]
    unfold rawT
    rw [htl]
  rw [hso]; rfl
end Ev
