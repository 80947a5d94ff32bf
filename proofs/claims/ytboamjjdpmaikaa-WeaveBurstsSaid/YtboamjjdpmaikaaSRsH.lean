/- Words: dividing on tells where bytes are others, and by how much. -/
import Derived.Test.YtboamjjdpmaikaaSRsG
import Derived.Test.YtboamjjdpmaikaaPq
namespace Ev

/-- What holds all along: of x and y by b and v. -/
theorem sstep_fun (x b v y : Bytes) : ∃ m : Ps, co (sstep x b b x) = fadd (co x) (fmul m (co b)) ∧ co (sstep x b v y) = fadd (co y) (fmul m (co v)) := by
  refine ⟨mono (gm (co x (tl x - 1)) (ginv (co b (tl b - 1)))) (tl x - tl b), ?_, ?_⟩
  · funext i
    rw [co_sstep, mono_fmul]; rfl
  · funext i
    rw [co_sstep, mono_fmul]; rfl
theorem fadd_swap (a b c d : Ps) : fadd (fadd a b) (fadd c d) = fadd (fadd a c) (fadd b d) := by
  funext i
  show (a i ^^^ b i) ^^^ (c i ^^^ d i) = (a i ^^^ c i) ^^^ (b i ^^^ d i)
  ac_rfl
theorem divL_inv {b v : Bytes} {n : Nat} {T : Ps} (hb : Cg n (co b) (fmul (co v) T)) : ∀ (f : Nat) (x y : Bytes), Cg n (co x) (fmul (co y) T) → Cg n (co (divL b v f x y).1) (fmul (co (divL b v f x y).2) T) ∧ fadd (fmul (co (divL b v f x y).1) (co v)) (fmul (co b) (co (divL b v f x y).2)) = fadd (fmul (co x) (co v)) (fmul (co b) (co y))
  | 0, x, y, h => ⟨h, rfl⟩
  | f + 1, x, y, h => by
    rw [divL]
    split
    · obtain ⟨m, m1, m2⟩ := sstep_fun x b v y
      obtain ⟨i1, i2⟩ := divL_inv hb f (sstep x b b x) (sstep x b v y) (by
        rw [m1, m2, fadd_fmul]
        refine h.add ?_
        rw [fmul_assoc]
        exact hb.mul2 m)
      refine ⟨i1, i2.trans ?_⟩
      rw [m1, m2, fadd_fmul, fmul_fadd, fadd_swap]
      have : fmul (fmul m (co b)) (co v) = fmul (co b) (fmul m (co v)) := by rw [fmul_comm m, fmul_assoc]
      rw [this, fadd_self, fadd_none]
    · exact ⟨h, rfl⟩
theorem solL_inv {m n l : Nat} (hm : m = n + l) {T : Ps} : ∀ (f : Nat) (a b u v : Bytes), tl b ≤ f → tl a + v.length ≤ n + 2 → u.length + tl b ≤ n + 2 → Cg n (co a) (fmul (co u) T) → Cg n (co b) (fmul (co v) T) → fadd (fmul (co a) (co v)) (fmul (co b) (co u)) = mono 1 n → (m : Int) ≤ 2 * ((tl a : Int) - 1) ∨ v.length ≤ 1 →
    ∃ a' u' : Bytes, Cg n (co a') (fmul (co u') T) ∧ Cg n (co (solL m f a b u v).1) (fmul (co (solL m f a b u v).2) T) ∧ fadd (fmul (co a') (co (solL m f a b u v).2)) (fmul (co (solL m f a b u v).1) (co u')) = mono 1 n ∧ 2 * ((tl (solL m f a b u v).1 : Int) - 1) < (m : Int) ∧ (2 * (tl (solL m f a b u v).2 : Int) + l ≤ n + 2 ∨ tl (solL m f a b u v).2 ≤ 1)
  | 0, a, b, u, v, h1, h2, h3, h4, h5, h6, h7 => by
    refine ⟨a, u, h4, h5, h6, ?_, ?_⟩
    · show 2 * ((tl b : Int) - 1) < _; omega
    · show 2 * (tl v : Int) + l ≤ n + 2 ∨ tl v ≤ 1
      have := tl_le v
      omega
  | f + 1, a, b, u, v, h1, h2, h3, h4, h5, h6, h7 => by
    rw [solL]
    split
    · rename_i hle
      have h0 : 0 < tl b := by omega
      obtain ⟨a1, a2, a3, a4⟩ := divL_ok (v := v) (M := n + 2) h0 (tl a) a u (Nat.le_refl _) h2 h3
      obtain ⟨i1, i2⟩ := divL_inv h5 (tl a) a u h4
      refine solL_inv hm f b (divL b v (tl a) a u).1 v (divL b v (tl a) a u).2 (by omega) (by omega) (by omega) h5 i1 ?_ (.inl hle)
      rw [fadd_comm, i2, h6]
    · refine ⟨a, u, h4, h5, h6, ?_, ?_⟩
      · show 2 * ((tl b : Int) - 1) < _; omega
      · show 2 * (tl v : Int) + l ≤ n + 2 ∨ tl v ≤ 1
        have := tl_le v
        omega
theorem mono_co (n : Nat) : co (trim (psh n [1])) = mono 1 n := by
  funext i
  rw [co_trim, co_psh]
  unfold mono
  split
  · rw [if_neg (by omega)]
  · by_cases h : i = n
    · subst h
      rw [if_pos rfl, Nat.sub_self]; rfl
    · rw [if_neg h, co_ge (by show 1 ≤ i - n; omega)]
theorem solF_inv {T : Bytes} {n l : Nat} (hn : 1 ≤ n) (hT : T.length ≤ n) : ∃ a u : Bytes, Cg n (co a) (fmul (co u) (co T)) ∧ Cg n (co (solF T n l).1) (fmul (co (solF T n l).2) (co T)) ∧ fadd (fmul (co a) (co (solF T n l).2)) (fmul (co (solF T n l).1) (co u)) = mono 1 n ∧ 2 * ((tl (solF T n l).1 : Int) - 1) < ((n + l : Nat) : Int) ∧ (2 * (tl (solF T n l).2 : Int) + l ≤ n + 2 ∨ tl (solF T n l).2 ≤ 1) := by
  have hal : (trim (psh n [1])).length ≤ n + 1 := by
    refine Nat.le_trans tl_le_len ?_
    unfold psh
    rw [pl_len]; exact Nat.le_refl _
  have htl := tl_le (trim (psh n [1]))
  have htT := tl_le T
  have h0 : co [] = fun _ => 0 := by funext i; exact co_ge (Nat.zero_le _)
  refine solL_inv (m := n + l) rfl (T := co T) (tl T) (trim (psh n [1])) T [] [1] (Nat.le_refl _) (by show _ + 1 ≤ _; omega) (by show 0 + _ ≤ _; omega) ?_ ?_ ?_ (.inr (Nat.le_refl _))
  · rw [h0, none_fmul, mono_co]
    intro i hi
    exact if_neg (by omega)
  · rw [one_co, one_fmul]
    exact fun _ _ => rfl
  · rw [h0, fmul_none, fadd_none, one_co, fmul_comm, one_fmul, mono_co]

/-- The one solution, but for a number. -/
theorem solve_one {T Om : Bytes} {Xs : List UInt8} {n l : Nat} (hn : 1 ≤ n) (hT : T.length ≤ n) (hx : Xs.Nodup) (h0 : ∀ X ∈ Xs, X ≠ 0 ∧ ev Om (ginv X) ≠ 0) (hO : Bd (co Om) (Xs.length + l)) (hd : 2 * Xs.length + l ≤ n) (hk : Cg n (fmul (co (PL Xs)) (co T)) (co Om)) :
    ∃ c : UInt8, c ≠ 0 ∧ (∀ i, co (solF T n l).1 i = gm c (co Om i)) ∧ ∀ i, co (solF T n l).2 i = gm c (co (PL Xs) i) := by
  obtain ⟨a, u, q1, q2, q3, q4, q5⟩ := solF_inv (l := l) hn hT
  generalize (solF T n l).1 = b at *
  generalize (solF T n l).2 = v at *
  have e1 : fmul (co b) (co (PL Xs)) = fmul (co v) (co Om) := by
    refine Cg.full (n := n) ?_ (((bd_tl b).mul (PL_bd Xs)).mono' (by omega)) (((bd_tl v).mul hO).mono' (by omega))
    refine (q2.mul (co (PL Xs))).trans ?_
    rw [fmul_assoc, fmul_comm (co T)]
    exact hk.mul2 (co v)
  obtain ⟨w, w1, w2⟩ := factors Xs (trim v) hx fun X hX => by
    obtain ⟨hX0, hXO⟩ := h0 X hX
    refine ⟨hX0, ?_⟩
    have h1 : ev (pmul b (PL Xs)) (ginv X) = ev (pmul v Om) (ginv X) := ev_co (fun i => by rw [co_mulf, co_mulf, e1]) _
    rw [ev_pmul, ev_pmul, (ev_PL Xs hX0).2 hX, gm_zero] at h1
    rcases gm_eq_zero.1 h1.symm with h2 | h2
    · rw [ev_trim]; exact h2
    · exact absurd h2 hXO
  rw [co_trimf] at w2
  have e2 : co b = fmul (co w) (co Om) := by
    refine fmul_cancel (f := co (PL Xs)) (by rw [PL_first]; decide) ?_
    rw [fmul_comm, e1, w2, fmul_assoc]
  have e3 : fmul (co w) (fadd (fmul (co a) (co (PL Xs))) (fmul (co Om) (co u))) = mono 1 n := by
    rw [← q3, e2, w2, fmul_fadd]
    congr 1
    · rw [fmul_comm (co (PL Xs)), ← fmul_assoc, ← fmul_assoc, fmul_comm (co w)]
    · rw [fmul_assoc]
  have e4 : Cg n (fadd (fmul (co a) (co (PL Xs))) (fmul (co Om) (co u))) (fun _ => 0) := by
    have h1 : Cg n (fmul (co a) (co (PL Xs))) (fmul (co Om) (co u)) := by
      refine (q1.mul (co (PL Xs))).trans ?_
      rw [fmul_assoc, fmul_comm (co T), fmul_comm (co Om)]
      exact hk.mul2 (co u)
    intro i hi
    show _ ^^^ _ = 0
    rw [h1 i hi, UInt8.xor_self]
  -- the other factor, as bytes
  obtain ⟨P, hP⟩ : ∃ P : Bytes, co P = fadd (fmul (co a) (co (PL Xs))) (fmul (co Om) (co u)) := ⟨padd (pmul a (PL Xs)) (pmul Om u), by rw [co_addf, co_mulf, co_mulf]⟩
  rw [← hP] at e3 e4
  have e5 : gm (co w 0) (co P n) = 1 := by
    have h1 := congrFun e3 n
    unfold mono at h1
    rw [if_pos rfl] at h1
    rw [← h1]
    unfold fmul
    rw [sm_one (k := 0) (by omega) fun i hi hne => by rw [e4 (n - i) (by omega), gm_zero], Nat.sub_zero]
  have hw0 : co w 0 ≠ 0 := fun h => by rw [h, zero_gm] at e5; exact absurd e5 (by decide)
  have hPn : co P n ≠ 0 := fun h => by rw [h, gm_zero] at e5; exact absurd e5 (by decide)
  have htw : 0 < tl w := by
    by_cases h : 0 < tl w
    · exact h
    · exact absurd (tl_zero w 0 (by omega)) hw0
  have htP : n < tl P := by
    by_cases h : n < tl P
    · exact h
    · exact absurd (tl_zero P n (by omega)) hPn
  have hw1 : tl w = 1 := by
    have ht := fmul_top (f := co w) (g := co P) (a := tl w - 1) (b := tl P - 1) ((bd_tl w).mono' (by omega)) ((bd_tl P).mono' (by omega))
    have hne := gm_ne (tl_ne w htw) (tl_ne P (by omega))
    rw [← ht, e3] at hne
    unfold mono at hne
    by_cases h : tl w - 1 + (tl P - 1) = n
    · omega
    · rw [if_neg h] at hne
      exact absurd rfl hne
  have hw : co w = mono (co w 0) 0 := by
    funext i
    unfold mono
    by_cases h : i = 0
    · subst h; rw [if_pos rfl]
    · rw [if_neg h]; exact tl_zero w i (by omega)
  refine ⟨co w 0, hw0, fun i => ?_, fun i => ?_⟩
  · rw [e2, hw, mono0]; rfl
  · rw [w2, fmul_comm, hw, mono0]; rfl
end Ev
