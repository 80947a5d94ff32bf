/- Weaving: Decode, whole. -/
import Derived.Test.YtboamjjdpmaikaaSWeaveD
namespace Ev
open Go (IntKind)

theorem shT_eq (W D P R : Nat) : shT W D P R = ((W : Int), (D : Int), (P : Int), (R : Int), ()) := rfl
theorem dwF_len {raw : Bytes} {W P : Nat} {l : List Int} (hW : 1 ≤ W) {n : Nat} (h : (dwF raw W P l n).2.2 = 0) : (dwF raw W P l n).1.length = wl raw.length W n ∧ 0 ≤ (dwF raw W P l n).2.1 ∧ (dwF raw W P l n).2.1 ≤ (wl raw.length W n : Int) := by
  unfold dwF at h ⊢
  rcases decF_cases (pt raw W n) P (hoF W raw.length n l) with e | e | ⟨o, e, eo⟩
  · rw [e] at h; exact absurd h (by decide)
  · rw [e] at h; exact absurd h (by decide)
  · rw [e]
    have h4 := dfc_le (pt raw W n) o
    rw [pt_len _ hW] at h4 eo
    exact ⟨eo, by show 0 ≤ (dfc (pt raw W n) o : Int); omega, by show (dfc (pt raw W n) o : Int) ≤ _; omega⟩
theorem wl_mono {L L2 W n : Nat} (h : L ≤ L2) : wl L W n ≤ wl L2 W n := Nat.div_le_div_right (by omega)
set_option maxHeartbeats 2000000 in
theorem wdecode_eq {H : Heap} {x3 : Sl} {l : List Int} (hr : Row H 1 x3 (intC l)) (hl : l.length < 100000) {raw : Bytes} {size P W D : Nat} (h : ShOK size P W D) (seed : Int) (hraw : raw.length = size + W * P) :
    ∃ G, Keep (fun _ => False) H G ∧ (((∀ n, n < W → (dwF raw W P l n).2.2 = 0) ∧ weave_Decode raw (shT W D P (size + W * P)) seed x3 H = some ((mixF (outW raw W P l size) (maskF seed size), sumW raw W P l W, 0, ()), G)) ∨ ∃ n, n < W ∧ (dwF raw W P l n).2.2 ≠ 0 ∧ (∀ m, m < n → (dwF raw W P l m).2.2 = 0) ∧ weave_Decode raw (shT W D P (size + W * P)) seed x3 H = some (([], 0, (dwF raw W P l n).2.2, ()), G)) := by
  obtain ⟨w1, w2, w3, w4⟩ := h.wd
  have hrr := h.r
  have hs0 := h.s0
  have hs1 := h.s1
  have hp0 := h.p0
  have hp1 := h.p1
  have hsub := h.sub
  have hfit := fits_ok h
  rw [shT_eq] at hfit ⊢
  have h1 : (H ++ [Blk.cells [.int .i64 (W : Int), .int .i64 (D : Int), .int .i64 (P : Int), .int .i64 ((size + W * P : Nat) : Int)] .exact])[H.length]? = some (Blk.cells [.int .i64 (W : Int), .int .i64 (D : Int), .int .i64 (P : Int), .int .i64 ((size + W * P : Nat) : Int)] .exact) := app_last
  have k1 : Keep (fun _ => False) H (H ++ [Blk.cells [.int .i64 (W : Int), .int .i64 (D : Int), .int .i64 (P : Int), .int .i64 ((size + W * P : Nat) : Int)] .exact]) := Keep.push _ _ _
  have hl1 : (H ++ [Blk.cells [.int .i64 (W : Int), .int .i64 (D : Int), .int .i64 (P : Int), .int .i64 ((size + W * P : Nat) : Int)] .exact]).length = H.length + 1 := by simp
  generalize hH1 : H ++ [Blk.cells [.int .i64 (W : Int), .int .i64 (D : Int), .int .i64 (P : Int), .int .i64 ((size + W * P : Nat) : Int)] .exact] = H1 at h1 k1 hl1
  obtain ⟨r1, r2, r3, r4⟩ := sh_at h1
  have hmk := mk_bytes (H := H1) (n := size) (by omega)
  rw [hl1] at hmk
  have k2 : Keep (fun _ => False) H1 (H1 ++ [Blk.cells (arrC size fun _ => [.int .u8 (un 0)]) .exact]) := Keep.push _ _ _
  have hb2 : BAt (H1 ++ [Blk.cells (arrC size fun _ => [.int .u8 (un 0)]) .exact]) (H.length + 1) size (fun _ => 0) := by
    unfold BAt
    rw [← hl1]; exact app_last
  obtain ⟨_, q2, _, _⟩ := sh_at (k2.get h1 id)
  have hne : H.length ≠ H.length + 1 := by omega
  have kF : ∀ {A B : Heap}, Keep (fun _ => False) A B → Keep (fun j => j = H.length + 1) A B := fun k => k.mono fun _ h => h.elim
  obtain ⟨x, G, l1, hx⟩ := loop_rise (step := weave_Decode.s2 raw x3 H (⟨some (H.length + 1, 0), size, size⟩, H1 ++ [Blk.cells (arrC size fun _ => [.int .u8 (un 0)]) .exact]) (W : Int)) W
    (fun n y G => y = (sumW raw W P l n, (n : Int), ()) ∧ (∀ m, m < n → (dwF raw W P l m).2.2 = 0) ∧ BAt G (H.length + 1) size (fun j => if j % W < n then co (dwF raw W P l (j % W)).1 (j / W) else 0) ∧ Keep (fun j => j = H.length + 1) H1 G)
    (fun x G => Keep (fun j => j = H.length + 1) H1 G ∧ ((x = .inl (sumW raw W P l W, ()) ∧ (∀ m, m < W → (dwF raw W P l m).2.2 = 0) ∧ BAt G (H.length + 1) size (fun j => co (dwF raw W P l (j % W)).1 (j / W))) ∨ ∃ n, n < W ∧ (dwF raw W P l n).2.2 ≠ 0 ∧ (∀ m, m < n → (dwF raw W P l m).2.2 = 0) ∧ x = .inr ([], 0, (dwF raw W P l n).2.2, ())))
    (by
      rintro n _ G hn ⟨rfl, hok, ba, kG⟩
      have hshG := kG.get h1 (fun h => hne h)
      obtain ⟨p1, p2, p3, p4⟩ := sh_at hshG
      have hrG : Row G 1 x3 (intC l) := hr.keep ((kF k1).trans kG) fun b o hp h => by
        have := hr.lt hp
        have h : b = H.length + 1 := h
        omega
      obtain ⟨t, G1, e1, e2, e3⟩ := holes_eq hrG hl (W := W) (R := size + W * P) (D : Int) (P : Int) w1 (by omega) n
      have hoL := hoF_len W (size + W * P) n l
      have hptl : (pt raw W n).length = wl raw.length W n := pt_len _ w1 n
      have hwle : wl raw.length W n ≤ raw.length + W := Nat.le_trans (Nat.div_le_self _ _) (by omega)
      obtain ⟨G2, d1, d2⟩ := decode_eq e2 (by omega) (pt raw W n) P (by omega) (by omega)
      have hdw : decF (pt raw W n) P (hoF W (size + W * P) n l) = dwF raw W P l n := by unfold dwF; rw [hraw]
      rw [hdw] at d1
      obtain ⟨_, _, p7, _⟩ := sh_at (e3.get hshG id)
      have hshG2 := (e3.trans d2).get hshG id
      obtain ⟨p8, _, _, _⟩ := sh_at hshG2
      have hpart := part_eq (s := raw) (D : Int) (P : Int) ((size + W * P : Nat) : Int) (show raw.length ≤ 1099511627776 by omega) w1 (by omega) (show n ≤ 1099511627776 by omega)
      by_cases hc : (dwF raw W P l n).2.2 = 0
      · left
        obtain ⟨c1, c2, c3⟩ := dwF_len w1 hc
        obtain ⟨G3, f1, f2, f3⟩ := word_loop (w := (dwF raw W P l n).1) (k := (dwF raw W P l n).2.1) (e := 0) (many := sumW raw W P l n) (H0 := H) (H1 := H1 ++ [Blk.cells (arrC size fun _ => [.int .u8 (un 0)]) .exact]) (H2 := G2) (H3 := G2) w1 hn (show size < 100000 by omega) (by omega) rfl hshG2 hne (ba.keep (e3.trans d2) id) (by rw [c1, hraw]; exact wl_mono (by omega))
        obtain ⟨s1, s2⟩ := sumW_le (raw := raw) (P := P) (l := l) w1 n hok
        have hmul : (raw.length + W) * n ≤ 2000 * 11 := Nat.mul_le_mul (by omega) (by omega)
        have hw2 : IntKind.wrap .i64 (sumW raw W P l n + (dwF raw W P l n).2.1) = sumW raw W P l (n + 1) := by
          rw [sumW]
          exact wrap_i64 (by omega) (by omega)
        refine ⟨(sumW raw W P l (n + 1), ((n + 1 : Nat) : Int), ()), G3, ?_, rfl, fun m hm => ?_, f2.congr fun j hj => ?_, (kG.trans ((kF e3).trans (kF d2))).trans f3⟩
        · unfold weave_Decode.s2
          simp only [decide_eq_true (show (n : Int) < (W : Int) by omega), cond_t, p1, bind_some, hpart, p3, e1, p7, if_true, d1, hc, decide_true, Bool.not_true, cond_f, p8, size_eq h hn]
          rw [hc] at d1
          simp only [f1, bind_some, hw2, wrap_succ (show n < 9223372036854775807 by omega)]
        · by_cases e : m = n
          · rw [e]; exact hc
          · exact hok m (by omega)
        · by_cases e : j % W = n
          · rw [if_pos e, if_pos (show j % W < n + 1 by omega), e]
          · rw [if_neg e]
            by_cases e2 : j % W < n
            · rw [if_pos e2, if_pos (show j % W < n + 1 by omega)]
            · rw [if_neg e2, if_neg (show ¬ j % W < n + 1 by omega)]
      · right
        refine ⟨.inr ([], 0, (dwF raw W P l n).2.2, ()), G2, ?_, (kG.trans ((kF e3).trans (kF d2))), .inr ⟨n, hn, hc, hok, rfl⟩⟩
        unfold weave_Decode.s2
        simp only [decide_eq_true (show (n : Int) < (W : Int) by omega), cond_t, p1, bind_some, hpart, p3, e1, p7, if_true, d1, decide_eq_false hc, Bool.not_false])
    (by
      rintro _ G ⟨rfl, hok, ba, kG⟩
      refine ⟨.inl (sumW raw W P l W, ()), G, ?_, kG, .inl ⟨rfl, hok, ba.congr fun j _ => by rw [if_pos (Nat.mod_lt _ (by omega))]⟩⟩
      unfold weave_Decode.s2
      simp only [decide_eq_false (show ¬ ((W : Nat) : Int) < (W : Int) by omega), cond_f])
    (y := (sumW raw W P l 0, ((0 : Nat) : Int), ())) (H := H1 ++ [Blk.cells (arrC size fun _ => [.int .u8 (un 0)]) .exact]) ⟨rfl, fun m hm => absurd hm (Nat.not_lt_zero _), hb2.congr fun j _ => by rw [if_neg (Nat.not_lt_zero _)], kF k2⟩
  obtain ⟨kG, hx⟩ := hx
  have l1' : loopW (weave_Decode.s2 raw x3 H (⟨some (H.length + 1, 0), size, size⟩, H1 ++ [Blk.cells (arrC size fun _ => [.int .u8 (un 0)]) .exact]) (W : Int)) (0, 0, ()) (H1 ++ [Blk.cells (arrC size fun _ => [.int .u8 (un 0)]) .exact]) = some (x, G) := l1
  have kHG : Keep (fun _ => False) H G := ((kF k1).trans kG).new fun j hj hlt => by
    have : j = H.length + 1 := hj
    omega
  refine ⟨G, kHG, ?_⟩
  unfold weave_Decode
  rcases hx with ⟨rfl, hok, ba⟩ | ⟨n, hn, hc, hok, rfl⟩
  · left
    refine ⟨hok, ?_⟩
    have hso := strOf_exact ba
    have hms := mask_eq seed (size : Int) (by omega)
    rw [Int.toNat_natCast] at hms
    have hmx : weave_Mix (outW raw W P l size) (maskF seed size) = some (mixF (outW raw W P l size) (maskF seed size), ()) := mix_eq _ _ (by unfold outW; rw [pl_len]; omega) (by rw [maskF_len]; omega)
    simp only [hH1, r1, bind_some, hfit, Bool.not_true, cond_f, r4, decide_eq_true (show (raw.length : Int) = ((size + W * P : Nat) : Int) by omega), r2, r3, hsub, hmk, q2, l1', sumL, hso, hms]
    rw [show (pl size fun j => co (dwF raw W P l (j % W)).1 (j / W)) = outW raw W P l size from rfl, hmx]
    rfl
  · right
    refine ⟨n, hn, hc, hok, ?_⟩
    simp only [hH1, r1, bind_some, hfit, Bool.not_true, cond_f, r4, decide_eq_true (show (raw.length : Int) = ((size + W * P : Nat) : Int) by omega), r2, r3, hsub, hmk, q2, l1', sumR]
/-- Of too many bytes, or too few, nothing comes. -/
theorem wdecode_no {H : Heap} {x3 : Sl} {raw : Bytes} {size P W D : Nat} (h : ShOK size P W D) (seed : Int) (hraw : raw.length ≠ size + W * P) : ∃ G, weave_Decode raw (shT W D P (size + W * P)) seed x3 H = some (([], 0, 1, ()), G) ∧ Keep (fun _ => False) H G := by
  have hfit := fits_ok h
  rw [shT_eq] at hfit ⊢
  have h1 : (H ++ [Blk.cells [.int .i64 (W : Int), .int .i64 (D : Int), .int .i64 (P : Int), .int .i64 ((size + W * P : Nat) : Int)] .exact])[H.length]? = some (Blk.cells [.int .i64 (W : Int), .int .i64 (D : Int), .int .i64 (P : Int), .int .i64 ((size + W * P : Nat) : Int)] .exact) := app_last
  obtain ⟨r1, r2, r3, r4⟩ := sh_at h1
  refine ⟨H ++ [Blk.cells [.int .i64 (W : Int), .int .i64 (D : Int), .int .i64 (P : Int), .int .i64 ((size + W * P : Nat) : Int)] .exact], ?_, Keep.push _ _ _⟩
  unfold weave_Decode
  simp only [r1, bind_some, hfit, Bool.not_true, cond_f, r4, decide_eq_false (show ¬ (raw.length : Int) = ((size + W * P : Nat) : Int) by omega), Bool.not_false, cond_t]
theorem wencode_no {s : Bytes} {size P W D : Nat} (h : ShOK size P W D) (seed : Int) (hs : s.length ≠ size) : weave_Encode s (shT W D P (size + W * P)) seed = some ([], 1, ()) := by
  have hfit := fits_ok h
  have hsub := h.sub
  rw [shT_eq] at hfit ⊢
  unfold weave_Encode weave_Encode.on
  have h1 : ([] ++ [Blk.cells [.int .i64 (W : Int), .int .i64 (D : Int), .int .i64 (P : Int), .int .i64 ((size + W * P : Nat) : Int)] .exact] : Heap)[([] : Heap).length]? = some (Blk.cells [.int .i64 (W : Int), .int .i64 (D : Int), .int .i64 (P : Int), .int .i64 ((size + W * P : Nat) : Int)] .exact) := rfl
  obtain ⟨r1, r2, r3, r4⟩ := sh_at h1
  simp only [r1, bind_some, hfit, Bool.not_true, cond_f, r2, r3, r4, hsub, decide_eq_false (show ¬ (s.length : Int) = (size : Int) by omega), Bool.not_false, cond_t]

/-! Made right. -/
/-- When each word is made right the page comes back. -/
theorem back_ok {s : Bytes} {raw : Bytes} {P W D : Nat} (h : ShOK s.length P W D) {seed : Int} {l : List Int} (hd : ∀ n, n < W → (dwF raw W P l n).1 = encF (pt (tF s seed) W n) P) : mixF (outW raw W P l s.length) (maskF seed s.length) = s := by
  obtain ⟨w1, w2, w3, w4⟩ := h.wd
  have ho : outW raw W P l s.length = tF s seed := by
    unfold outW
    rw [← pl_co (tF s seed), tF_len]
    refine pl_congr fun j hj => ?_
    have hm : j % W < W := Nat.mod_lt _ (by omega)
    rw [hd _ hm]
    unfold encF
    have hlt : j / W < (pt (tF s seed) W (j % W)).length := by
      rw [pt_len _ w1, tF_len]
      refine (wl_lt w1).2 ?_
      rw [Nat.mul_comm, Nat.mod_add_div]; exact hj
    rw [co_app, if_pos hlt, pt_co _ w1, Nat.mul_comm, Nat.mod_add_div]
  rw [ho]
  unfold tF
  exact mixF_twice (maskF_len _ _).symm
end Ev
