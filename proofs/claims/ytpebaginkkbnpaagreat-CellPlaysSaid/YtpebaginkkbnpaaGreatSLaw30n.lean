/- CellNoise: words of which many bytes are others; noise of one page. -/
import Derived.Test.YtpebaginkkbnpaaGreatSLaw30h
namespace Ev
open Go (IntKind)

theorem near0 {s : Bytes} (hs : s.length = 104) : decF s 8 [] = ([], 0, 280) ∨ ∃ c, decF s 8 [] = (c, (dfc s c : Int), 0) ∧ c.length = 104 ∧ rtB c 8 = true ∧ 2 * dfc s c ≤ 8 := by
  have hck : ckB s.length (8 : Nat) = true := by rw [hs]; decide
  have h1 : ¬ (badL [] s.length ∨ 8 < (lostK [] s.length).length) := fun h => h.elim (badL_nil _) (by rw [lostK_nil]; simp)
  unfold decF
  rw [hck, if_neg (by decide), if_neg h1]
  cases hr : rtB s 8 with
  | true =>
    right
    rw [if_pos rfl]
    have : dfc s s = 0 := by
      unfold dfc
      rw [List.filter_eq_nil_iff.2 fun k _ => by simp]; rfl
    exact ⟨s, by rw [this]; rfl, hs, hr, by rw [this]; decide⟩
  | false =>
    rw [if_neg (by decide), lostK_nil]
    rcases decC_near (s := s) (n := 8) (K := []) (by omega) List.nodup_nil (fun e he => by cases he) with h | ⟨o, g1, g2, g3, g4⟩
    · exact .inl h
    · right
      refine ⟨o, g1, by omega, g3, ?_⟩
      have e : (dfc s o) = ((List.range s.length).filter fun k => co s k != co o k && !((([] : List Int).map Int.toNat).contains (s.length - 1 - k))).length := by
        unfold dfc
        congr 1
        apply List.filter_congr
        intro k _
        simp
      rw [e]
      simpa using g4
theorem take_pl {c : Bytes} {n : Nat} (h : n ≤ c.length) : pl n (co c) = c.take n := by
  rw [← pl_co (c.take n), List.length_take, Nat.min_eq_left h]
  refine pl_congr fun k hk => ?_
  unfold co
  rw [List.getD_eq_getElem?_getD, List.getD_eq_getElem?_getD, List.getElem?_take_of_lt hk]

/-- Whatever word comes. -/
theorem dec_near {q : CeA} (hq : Std q) (hs : ShOK (q.S + 32) 8 q.W q.D) (seed : Int) {raw : Bytes} (hraw : raw.length = 104) :
    ∃ o, DecIs q seed raw o ∧ (o = ([], 0, 280) ∨ ∃ c, c.length = 104 ∧ rtB c 8 = true ∧ 2 * dfc raw c ≤ 8 ∧ o.2.2 = 0 ∧ o.1 = mixF (c.take 96) (maskF seed 96)) := by
  have hsh := sh96 hq hs
  have hdw : dwF raw 1 8 [] 0 = decF raw 8 [] := by
    unfold dwF
    rw [pt_one]
    rfl
  have hW : q.W = 1 := hq.2.2.2
  have hR := hq.R
  rcases near0 hraw with h | ⟨c, h, hc1, hc2, hc3⟩
  · refine ⟨([], 0, 280), fun H => ?_, .inl rfl⟩
    obtain ⟨G, k, hx⟩ := wdecode_eq (l := []) (x3 := ⟨none, 0, 0⟩) (H := H) (nil_row H 1) (by simp) hsh seed (raw := raw) (by rw [hraw])
    refine ⟨G, ?_, k⟩
    rw [hW, hR]
    rcases hx with ⟨hx, _⟩ | ⟨n, hn, _, _, hx⟩
    · have := hx 0 (by decide)
      rw [hdw, h] at this
      exact absurd this (by decide)
    · obtain rfl : n = 0 := by omega
      rw [hdw, h] at hx
      exact hx
  · refine ⟨(mixF (c.take 96) (maskF seed 96), sumW raw 1 8 [] 1, 0), fun H => ?_, .inr ⟨c, hc1, hc2, hc3, rfl, rfl⟩⟩
    obtain ⟨G, k, hx⟩ := wdecode_eq (l := []) (x3 := ⟨none, 0, 0⟩) (H := H) (nil_row H 1) (by simp) hsh seed (raw := raw) (by rw [hraw])
    refine ⟨G, ?_, k⟩
    rw [hW, hR]
    rcases hx with ⟨_, hx⟩ | ⟨n, hn, hx, _, _⟩
    · have ho : outW raw 1 8 [] 96 = c.take 96 := by
        rw [← take_pl (show 96 ≤ c.length by omega)]
        unfold outW
        refine pl_congr fun j _ => ?_
        rw [Nat.mod_one, Nat.div_one, hdw, h]
      rw [ho] at hx
      exact hx
    · obtain rfl : n = 0 := by omega
      rw [hdw, h] at hx
      exact absurd rfl hx
/-- Two right words that begin alike are one. -/
theorem begin_same {c s : Bytes} (hc : c.length = 104) (hr : rtB c 8 = true) (hs : s.length = 96) {seed : Int} (h : mixF (c.take 96) (maskF seed 96) = s) : c = rawF s 1 8 seed := by
  have hl : (c.take 96).length = 96 := by rw [List.length_take]; omega
  have ht : c.take 96 = tF s seed := by
    unfold tF
    rw [hs, ← h, mixF_twice (by rw [hl, maskF_len])]
  have hrl : (rawF s 1 8 seed).length = 104 := by rw [rawF_len, hs]
  refine far (n := 8) (by omega) (by omega) hr (raw_right hs seed) ?_
  unfold dfc
  rw [hc]
  have key : cN 104 (fun k => co c k != co (rawF s 1 8 seed) k) ≤ 104 - 96 := (cN_window (p := fun k => co c k != co (rawF s 1 8 seed) k) (lo := 96) (m := 8) (L := 104) fun j hj hp => by
    refine ⟨?_, by omega⟩
    rcases Nat.lt_or_ge j 96 with h2 | h2
    · have e1 : co c j = co (c.take 96) j := by
        unfold co
        rw [List.getD_eq_getElem?_getD, List.getD_eq_getElem?_getD, List.getElem?_take_of_lt h2]
      have e2 : co (rawF s 1 8 seed) j = co (tF s seed) j := by
        unfold rawF rawT
        rw [co_pl, tF_len, hs, if_pos (by omega), if_pos h2]
      rw [e1, e2, ht] at hp
      simp at hp
    · exact h2).2
  exact key

/-- Noise of one page, at one read. -/
def mkN (r b p : Int) (v : Nat → UInt8) (k : Nat) : Noi := (r, b, p, (k : Int), un (v k), ())
theorem turn_list {q : CeA} (hq : Std q) {r b p : Int} (hb : 0 ≤ b ∧ b < 8) (hp : 0 ≤ p ∧ p < 4) (v : Nat → UInt8) (Y : Int → Option Bytes) : ∀ (ks : List Nat) (o : Option Bytes), (∀ k ∈ ks, k < 104) → ks.Nodup → (∀ x, o = some x → x.length = 104) →
    ∃ o', turnX q r (fun k => if k = b * 4 + p then o else Y k) (ks.map (mkN r b p v)) = (fun k => if k = b * 4 + p then o' else Y k) ∧ (∀ x, o' = some x → x.length = 104) ∧ ∀ j, fxX o' j = if j ∈ ks then fxX o j ^^^ v j else fxX o j
  | [], o, _, _, hl => ⟨o, rfl, hl, fun j => by simp⟩
  | a :: ks, o, hlt, hnd, hl => by
    have ha := hlt a (by simp)
    obtain ⟨hna, hnd2⟩ := List.nodup_cons.1 hnd
    have hl2 : ∀ x, some (flip1 (baseX 104 o) a (v a)) = some x → x.length = 104 := fun x hx => by
      cases hx
      unfold flip1
      rw [List.length_set]
      exact baseX_len hl
    obtain ⟨o', h1, h2, h3⟩ := turn_list hq hb hp v Y ks (some (flip1 (baseX 104 o) a (v a))) (fun k hk => hlt k (List.mem_cons_of_mem _ hk)) hnd2 hl2
    refine ⟨o', ?_, h2, fun j => ?_⟩
    · rw [← h1]
      unfold turnX
      rw [List.map_cons, List.foldl_cons]
      congr 1
      unfold stepX mkN
      rw [if_pos (show inN q r (r, b, p, (a : Int), un (v a), ()) from ⟨rfl, hb.1, by rw [hq.1]; exact hb.2, hp.1, by rw [hq.2.1]; exact hp.2, by show (0 : Int) ≤ (a : Int); omega, by rw [hq.R]; show (a : Int) < ((104 : Nat) : Int); omega⟩)]
      funext k
      simp only
      rw [num_std hq, hq.R, Int.toNat_natCast]
      have hv : UInt8.ofNat (un (v a)).toNat = v a := by
        show UInt8.ofNat (((v a).toNat : Nat) : Int).toNat = v a
        rw [Int.toNat_natCast, UInt8.ofNat_toNat]
      by_cases e : k = b * 4 + p
      · rw [if_pos e, if_pos e, if_pos e, hv]
      · rw [if_neg e, if_neg e, if_neg e]
    · rw [h3, fx_flip hl ha]
      by_cases e : j = a
      · rw [if_pos e, if_neg (by rw [e]; exact hna), if_pos (by rw [e]; simp), e]
      · rw [if_neg e]
        by_cases e2 : j ∈ ks
        · rw [if_pos e2, if_pos (List.mem_cons_of_mem _ e2)]
        · rw [if_neg e2, if_neg (by simp [e, e2])]
theorem turn_app (q : CeA) (r : Int) (X : Int → Option Bytes) (A B : List Noi) : turnX q r X (A ++ B) = turnX q r (turnX q r X A) B := by
  unfold turnX
  rw [List.foldl_append]
end Ev
