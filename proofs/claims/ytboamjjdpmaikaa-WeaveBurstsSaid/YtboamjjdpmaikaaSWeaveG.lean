/- Weaving: which words are made right, and how many bytes were others. -/
import Derived.Test.YtboamjjdpmaikaaSWeaveF
import Derived.Test.YtboamjjdpmaikaaSRsK
namespace Ev
open Go (IntKind)

theorem cN_window {p : Nat → Bool} {lo m : Nat} : ∀ {L : Nat}, (∀ j, j < L → p j = true → lo ≤ j ∧ j < lo + m) → cN L p ≤ m ∧ cN L p ≤ L - lo
  | 0, _ => ⟨Nat.zero_le _, Nat.zero_le _⟩
  | L + 1, h => by
    obtain ⟨h1, h2⟩ := cN_window (L := L) fun j hj => h j (by omega)
    rw [cN_succ]
    have h3 := h L (by omega)
    by_cases hp : p L = true
    · rw [if_pos hp]
      have := h3 hp
      omega
    · rw [if_neg hp]; omega
def sumN (f : Nat → Nat) : Nat → Nat
  | 0 => 0
  | n + 1 => sumN f n + f n
theorem sumN_congr {f g : Nat → Nat} : ∀ {n : Nat}, (∀ i, i < n → f i = g i) → sumN f n = sumN g n
  | 0, _ => rfl
  | n + 1, h => by rw [sumN, sumN, sumN_congr fun i hi => h i (by omega), h n (by omega)]
theorem sumN_one {f g : Nat → Nat} {a d : Nat} : ∀ {n : Nat}, a < n → (∀ i, i < n → i ≠ a → f i = g i) → f a = g a + d → sumN f n = sumN g n + d
  | 0, h, _, _ => absurd h (Nat.not_lt_zero _)
  | n + 1, h, hi, ha => by
    rw [sumN, sumN]
    by_cases e : a = n
    · subst e
      rw [ha, sumN_congr fun i hh => hi i (by omega) (by omega)]; omega
    · rw [sumN_one (n := n) (by omega) (fun i hh hne => hi i (by omega) hne) ha, hi n (by omega) (by omega)]; omega
theorem wl_last {L W n : Nat} (hW : 1 ≤ W) (hn : n < W) : wl (L + 1) W n = wl L W n + (if L % W = n then 1 else 0) := by
  have h1 : ∀ k, k < wl (L + 1) W n ↔ n + k * W < L + 1 := fun k => wl_lt hW
  have h2 : ∀ k, k < wl L W n ↔ n + k * W < L := fun k => wl_lt hW
  by_cases h : L % W = n
  · rw [if_pos h]
    have h3 : n + (L / W) * W = L := by rw [← h, Nat.mul_comm]; exact Nat.mod_add_div L W
    have e1 := (h1 (L / W)).2 (by omega)
    have e2 : ¬ L / W < wl L W n := fun h => by have := (h2 _).1 h; omega
    have e3 : ¬ L / W + 1 < wl (L + 1) W n := fun h => by
      have := (h1 _).1 h
      rw [Nat.succ_mul] at this
      omega
    by_cases h0 : L / W = 0
    · rw [h0] at e1 e2 e3; omega
    · have e4 := (h2 (L / W - 1)).2 (by
        have h5 : (L / W - 1) * W + W = L / W * W := by rw [← Nat.succ_mul]; congr 1; omega
        omega)
      omega
  · rw [if_neg h, Nat.add_zero]
    have key : ∀ k, n + k * W < L + 1 ↔ n + k * W < L := fun k => by
      constructor
      · intro h4
        by_cases h5 : n + k * W = L
        · exact absurd (by rw [← h5, Nat.add_mul_mod_self_right, Nat.mod_eq_of_lt hn]) h
        · omega
      · intro h4; omega
    have a1 : ∀ k, k < wl (L + 1) W n ↔ k < wl L W n := fun k => by rw [h1, h2, key]
    have b1 : ¬ wl L W n < wl (L + 1) W n := fun h => Nat.lt_irrefl _ ((a1 _).1 h)
    have b2 : ¬ wl (L + 1) W n < wl L W n := fun h => Nat.lt_irrefl _ ((a1 _).2 h)
    omega
/-- Places, class by class. -/
theorem sum_classes {W : Nat} (hW : 1 ≤ W) (q : Nat → Bool) : ∀ L, sumN (fun n => cN (wl L W n) fun k => q (n + k * W)) W = cN L q
  | 0 => by
    have : sumN (fun n => cN (wl 0 W n) fun k => q (n + k * W)) W = sumN (fun _ => 0) W := sumN_congr fun n _ => by
      have : wl 0 W n = 0 := by
        unfold wl
        rw [Nat.zero_sub, Nat.zero_add, Nat.div_eq_of_lt (by omega)]
      rw [this]; rfl
    rw [this]
    show _ = 0
    clear this
    induction W with
    | zero => rfl
    | succ W ih =>
      by_cases h : 1 ≤ W
      · rw [sumN, ih h]
      · have : W = 0 := by omega
        subst this; rfl
  | L + 1 => by
    rw [cN_succ, ← sum_classes hW q L]
    have hm : L % W < W := Nat.mod_lt _ (by omega)
    refine sumN_one hm (fun i hi hne => ?_) ?_
    · rw [wl_last hW hi, if_neg (fun h => hne h.symm), Nat.add_zero]
    · rw [wl_last hW hm, if_pos rfl, cN_succ]
      congr 1
      have hq : L % W + wl L W (L % W) * W = L := by
        have h1 : ¬ L % W + wl L W (L % W) * W < L := fun h => Nat.lt_irrefl _ ((wl_lt hW).2 h)
        have h2 : wl (L + 1) W (L % W) = wl L W (L % W) + 1 := by rw [wl_last hW hm, if_pos rfl]
        have h3 := (wl_lt (L := L + 1) (n := L % W) (k := wl L W (L % W)) hW).1 (by omega)
        omega
      rw [hq]
theorem dfc_cN (s c : Bytes) : dfc s c = cN s.length fun k => co s k != co c k := rfl
theorem hoF_good {W R n : Nat} {l : List Int} (hW : 1 ≤ W) (hn : n < W) : ¬ badL (hoF W R n l) (wl R W n) := fun ⟨v, h1, h2⟩ => by
  obtain ⟨x, _, ⟨h3, h4, h5⟩, rfl⟩ := hoF_mem.1 h1
  have h6 : x.toNat / W < wl R W n := (wl_lt hW).2 (by rw [← h5, Nat.mul_comm, Nat.mod_add_div]; omega)
  generalize x.toNat / W = z at h6 h2
  omega
/-- One word: made right. -/
theorem dw_ok {raw raw2 : Bytes} {W P n : Nat} {l : List Int} (hW : 1 ≤ W) (hn : n < W) (hl : raw2.length = raw.length) (hP : 1 ≤ P ∧ P ≤ 32) (hw : P < wl raw.length W n ∧ wl raw.length W n ≤ 255) (hr : rtB (pt raw W n) P = true) (p : Nat → Bool) (hp : ∀ k, k < raw.length → (p k = true ↔ (k : Int) ∈ l))
    (hd : 2 * (cN (wl raw.length W n) fun k => co raw2 (n + k * W) != co raw (n + k * W) && !(p (n + k * W))) + (cN (wl raw.length W n) fun k => p (n + k * W)) ≤ P) : dwF raw2 W P l n = (pt raw W n, ((cN (wl raw.length W n) fun k => co raw2 (n + k * W) != co raw (n + k * W) : Nat) : Int), 0) := by
  have h1 : (pt raw2 W n).length = wl raw.length W n := by rw [pt_len _ hW, hl]
  have h2 : (pt raw W n).length = wl raw.length W n := pt_len _ hW n
  have hoe : ∀ k, k < wl raw.length W n → (p (n + k * W) = true ↔ (k : Int) ∈ hoF W raw2.length n l) := fun k hk => by
    have hk2 := (wl_lt hW).1 hk
    rw [hp _ hk2, hoF_mem]
    constructor
    · intro h
      refine ⟨_, h, ⟨by omega, by omega, ?_⟩, ?_⟩
      · rw [Int.toNat_natCast, Nat.add_mul_mod_self_right, Nat.mod_eq_of_lt hn]
      · rw [Int.toNat_natCast, Nat.add_mul_div_right _ _ (by omega), Nat.div_eq_of_lt hn, Nat.zero_add]
    · rintro ⟨v, h3, ⟨h4, h5, h6⟩, h7⟩
      have h8 : k = v.toNat / W := Int.ofNat.inj h7
      have : ((n + k * W : Nat) : Int) = v := by
        have h9 := Nat.mod_add_div v.toNat W
        rw [h6, Nat.mul_comm, ← h8] at h9
        omega
      rw [this]; exact h3
  unfold dwF
  have hck : ckB (pt raw2 W n).length P = true := decide_eq_true (by omega)
  have key := dec_ok (s := pt raw2 W n) (c := pt raw W n) (n := P) (l := hoF W raw2.length n l) hck (by omega) hr (fun k => p (n + k * W)) (by rw [h1, ← hl]; exact hoF_good hW hn) (fun k hk => hoe k (by omega)) (by
    rw [h1]
    have e1 : (cN (wl raw.length W n) fun k => co (pt raw2 W n) k != co (pt raw W n) k && !(p (n + k * W))) = cN (wl raw.length W n) fun k => co raw2 (n + k * W) != co raw (n + k * W) && !(p (n + k * W)) := cN_congr fun k _ => by rw [pt_co _ hW, pt_co _ hW]
    rw [e1]; exact hd)
  rw [key, dfc_cN, h1]
  have e2 : (cN (wl raw.length W n) fun k => co (pt raw2 W n) k != co (pt raw W n) k) = cN (wl raw.length W n) fun k => co raw2 (n + k * W) != co raw (n + k * W) := cN_congr fun k _ => by rw [pt_co _ hW, pt_co _ hW]
  rw [e2]
theorem sumW_ok {raw raw2 : Bytes} {W P : Nat} {l : List Int} {f : Nat → Nat} : ∀ n, (∀ m, m < n → (dwF raw2 W P l m).2.1 = (f m : Int)) → sumW raw2 W P l n = ((sumN f n : Nat) : Int)
  | 0, _ => rfl
  | n + 1, h => by
    rw [sumW, sumW_ok (raw := raw) n fun m hm => h m (by omega), h n (by omega), sumN]; omega
/-- A page that is kept, of which bytes may be others, or lost: it comes back. -/
theorem wback {H : Heap} {x3 : Sl} {l : List Int} (hr : Row H 1 x3 (intC l)) (hl : l.length < 100000) {s raw2 : Bytes} {P W D : Nat} (h : ShOK s.length P W D) (seed : Int) (hraw : raw2.length = s.length + W * P) (p : Nat → Bool) (hp : ∀ k, k < s.length + W * P → (p k = true ↔ (k : Int) ∈ l))
    (hd : ∀ n, n < W → 2 * (cN (wl (s.length + W * P) W n) fun k => co raw2 (n + k * W) != co (rawF s W P seed) (n + k * W) && !(p (n + k * W))) + (cN (wl (s.length + W * P) W n) fun k => p (n + k * W)) ≤ P) :
    ∃ G, Keep (fun _ => False) H G ∧ weave_Decode raw2 (shT W D P (s.length + W * P)) seed x3 H = some ((s, ((cN (s.length + W * P) fun k => co raw2 k != co (rawF s W P seed) k : Nat) : Int), 0, ()), G) := by
  obtain ⟨w1, w2, w3, w4⟩ := h.wd
  have hp0 := h.p0
  have hp1 := h.p1
  have hsW := h.sW
  have htl := tF_len s seed
  have hrl := rawF_len s W P seed
  have hword : ∀ n, n < W → pt (rawF s W P seed) W n = encF (pt (tF s seed) W n) P := fun n hn => raw_word w1 hn (by rw [htl]; exact hsW)
  have hdw : ∀ n, n < W → dwF raw2 W P l n = (encF (pt (tF s seed) W n) P, ((cN (wl (s.length + W * P) W n) fun k => co raw2 (n + k * W) != co (rawF s W P seed) (n + k * W) : Nat) : Int), 0) := fun n hn => by
    have hle := wl_le (L := s.length) (W := W) (n := n)
    rw [← h.d] at hle
    have hpos := wl_pos (L := s.length) (n := n) w1 (by omega)
    have hwa := wl_add (L := s.length) (n := n) P w1 (by omega)
    have := dw_ok (raw := rawF s W P seed) (raw2 := raw2) (W := W) (P := P) (n := n) (l := l) w1 hn (by rw [hrl, hraw]) ⟨by omega, hp1⟩ (by rw [hrl]; omega) (by rw [hword n hn]; exact enc_right _ _) p (fun k hk => hp k (by rw [← hrl]; exact hk)) (by rw [hrl]; exact hd n hn)
    rw [hrl, hword n hn] at this
    exact this
  obtain ⟨G, k1, hx⟩ := wdecode_eq hr hl h seed hraw
  refine ⟨G, k1, ?_⟩
  rcases hx with ⟨_, hx⟩ | ⟨n, hn, hc, _, _⟩
  · rw [hx, back_ok h fun n hn => by rw [hdw n hn], sumW_ok (raw := s) (f := fun n => cN (wl (s.length + W * P) W n) fun k => co raw2 (n + k * W) != co (rawF s W P seed) (n + k * W)) W fun m hm => by rw [hdw m hm], sum_classes w1 (fun j => co raw2 j != co (rawF s W P seed) j)]
  · rw [hdw n hn] at hc
    exact absurd rfl hc
end Ev
