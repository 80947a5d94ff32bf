/- Weaving: how a page comes back. -/
import Derived.Test.YtboamjjdpmaikaaSWeaveE
namespace Ev
open Go (IntKind)

/-- The places of a word that are known to be lost. -/
def hoF (W R n : Nat) : List Int → List Int
  | [] => []
  | v :: r => if 0 ≤ v ∧ v < (R : Int) ∧ v.toNat % W = n then ((v.toNat / W : Nat) : Int) :: hoF W R n r else hoF W R n r
theorem hoF_snoc (W R n : Nat) (x : Int) : ∀ l, hoF W R n (l ++ [x]) = hoF W R n l ++ (if 0 ≤ x ∧ x < (R : Int) ∧ x.toNat % W = n then [((x.toNat / W : Nat) : Int)] else [])
  | [] => by
    rw [List.nil_append, hoF, hoF]
    split <;> rfl
  | v :: r => by
    rw [List.cons_append, hoF, hoF_snoc W R n x r, hoF]
    split <;> rfl
theorem hoF_len (W R n : Nat) : ∀ l, (hoF W R n l).length ≤ l.length
  | [] => Nat.le_refl 0
  | v :: r => by
    have := hoF_len W R n r
    rw [hoF]
    split
    · rw [List.length_cons, List.length_cons]; omega
    · rw [List.length_cons]; omega
theorem hoF_mem {W R n : Nat} {x : Int} : ∀ {l}, x ∈ hoF W R n l ↔ ∃ v ∈ l, (0 ≤ v ∧ v < (R : Int) ∧ v.toNat % W = n) ∧ x = ((v.toNat / W : Nat) : Int)
  | [] => ⟨fun h => absurd h List.not_mem_nil, fun ⟨v, h, _⟩ => absurd h List.not_mem_nil⟩
  | v :: r => by
    rw [hoF]
    split
    · rename_i hc
      rw [List.mem_cons, hoF_mem]
      constructor
      · rintro (h | ⟨w, h1, h2⟩)
        · exact ⟨v, List.mem_cons_self .., hc, h⟩
        · exact ⟨w, List.mem_cons_of_mem _ h1, h2⟩
      · rintro ⟨w, h1, h2, h3⟩
        rcases List.mem_cons.1 h1 with rfl | h1
        · exact .inl h3
        · exact .inr ⟨w, h1, h2, h3⟩
    · rename_i hc
      rw [hoF_mem]
      constructor
      · rintro ⟨w, h1, h2⟩; exact ⟨w, List.mem_cons_of_mem _ h1, h2⟩
      · rintro ⟨w, h1, h2, h3⟩
        rcases List.mem_cons.1 h1 with rfl | h1
        · exact absurd h2 hc
        · exact ⟨w, h1, h2, h3⟩
theorem holes_eq {H : Heap} {s : Sl} {l : List Int} (hr : Row H 1 s (intC l)) (hl : l.length < 100000) {W R : Nat} (D P : Int) (hW : 1 ≤ W) (hR : R < 1000000) (n : Nat) : ∃ t G, weave_holes s ((W : Int), D, P, (R : Int), ()) (n : Int) H = some ((t, ()), G) ∧ Row G 1 t (intC (hoF W R n l)) ∧ Keep (fun _ => False) H G := by
  have hs := hr.int_len
  have h0 : (H ++ [Blk.cells [.int .i64 (W : Int), .int .i64 D, .int .i64 P, .int .i64 (R : Int)] .exact])[H.length]? = some (Blk.cells [.int .i64 (W : Int), .int .i64 D, .int .i64 P, .int .i64 (R : Int)] .exact) := app_last
  have k0 : Keep (fun _ => False) H (H ++ [Blk.cells [.int .i64 (W : Int), .int .i64 D, .int .i64 P, .int .i64 (R : Int)] .exact]) := Keep.push _ _ _
  generalize hH1 : H ++ [Blk.cells [.int .i64 (W : Int), .int .i64 D, .int .i64 P, .int .i64 (R : Int)] .exact] = H1 at h0 k0
  obtain ⟨x, G, l1, t, rfl, g⟩ := loop_rise (step := weave_holes.s1 s (n : Int) H) l.length (fun i y G => ∃ t, y = (t, (i : Int), ()) ∧ GrowN H1 G 1 t (intC (hoF W R n (l.take i)))) (fun x G => ∃ t, x = (t, ()) ∧ GrowN H1 G 1 t (intC (hoF W R n l)))
    (by
      rintro i _ G hi ⟨t, rfl, g⟩
      left
      obtain ⟨b, o, _, a1, a2⟩ := (hr.keep (k0.trans g.keep) fun _ _ _ => id).int hi
      obtain ⟨_, q2, _, q4⟩ := sh_at (g.keep.get h0 id)
      have hlt : decide ((i : Int) < (s.len : Int)) = true := decide_eq_true (by omega)
      have hw := wrap_succ (show i < 9223372036854775807 by omega)
      have hsn := hoF_snoc W R n l[i] (l.take i)
      rw [← List.take_succ_eq_append_getElem hi] at hsn
      have hW0 : decide ((W : Int) = 0) = false := decide_eq_false (by omega)
      by_cases c : 0 ≤ l[i] ∧ l[i] < (R : Int) ∧ l[i].toNat % W = n
      · rw [if_pos c] at hsn
        obtain ⟨m, hm⟩ : ∃ m : Nat, l[i] = (m : Int) := ⟨l[i].toNat, (Int.toNat_of_nonneg c.1).symm⟩
        rw [hm] at a2 c hsn
        rw [Int.toNat_natCast] at c hsn
        have htm : Int.tmod (m : Int) (W : Int) = ((m % W : Nat) : Int) := rfl
        have hml : m / W ≤ m := Nat.div_le_self m W
        have htd : IntKind.wrap .i64 (Int.tdiv (m : Int) (W : Int)) = ((m / W : Nat) : Int) := by
          rw [tdiv_nat]
          generalize m / W = z at hml
          exact wrap_i64 (by omega) (by omega)
        have hle := hoF_len W R n (l.take i)
        rw [List.length_take] at hle
        have htl := g.int_len
        obtain ⟨t', G2, b1, b2, b3, b4, _⟩ := g.one (bytes := 8) (new := [.int .i64 ((m / W : Nat) : Int)]) (by decide) rfl (by omega) (by omega)
        refine ⟨(t', ((i + 1 : Nat) : Int), ()), G2, ?_, t', rfl, by rw [hsn, intC_snoc]; exact b3⟩
        unfold weave_holes.s1
        simp only [hlt, cond_t, a1, bind_some, a2, decide_eq_true c.1, q4, decide_eq_true c.2.1, q2, hW0, cond_f, htm, decide_eq_true (show ((m % W : Nat) : Int) = (n : Int) by rw [c.2.2]), htd, b1, b2, hw]
      · rw [if_neg c, List.append_nil] at hsn
        refine ⟨(t, ((i + 1 : Nat) : Int), ()), G, ?_, t, rfl, by rw [hsn]; exact g⟩
        unfold weave_holes.s1
        by_cases c1 : 0 ≤ l[i]
        · by_cases c2 : l[i] < (R : Int)
          · obtain ⟨m, hm⟩ : ∃ m : Nat, l[i] = (m : Int) := ⟨l[i].toNat, (Int.toNat_of_nonneg c1).symm⟩
            rw [hm] at a2 c c1 c2
            rw [Int.toNat_natCast] at c
            have htm : Int.tmod (m : Int) (W : Int) = ((m % W : Nat) : Int) := rfl
            have hne : ¬ ((m % W : Nat) : Int) = (n : Int) := fun h => c ⟨c1, c2, Int.ofNat.inj h⟩
            simp only [hlt, cond_t, a1, bind_some, a2, decide_eq_true c1, q4, decide_eq_true c2, q2, hW0, cond_f, htm, decide_eq_false hne, hw]
          · simp only [hlt, cond_t, a1, bind_some, a2, decide_eq_true c1, q4, decide_eq_false c2, cond_f, hw]
        · simp only [hlt, cond_t, a1, bind_some, a2, decide_eq_false c1, cond_f, hw])
    (by
      rintro _ G ⟨t, rfl, g⟩
      rw [List.take_length] at g
      refine ⟨(t, ()), G, ?_, t, rfl, g⟩
      unfold weave_holes.s1
      simp only [decide_eq_false (show ¬ ((l.length : Nat) : Int) < (s.len : Int) by omega), cond_f])
    (y := (⟨none, 0, 0⟩, ((0 : Nat) : Int), ())) (H := H1) ⟨_, rfl, GrowN.ni (Keep.refl _ _) 1⟩
  have l1' : loopW (weave_holes.s1 s (n : Int) H) (⟨none, 0, 0⟩, 0, ()) H1 = some ((t, ()), G) := l1
  refine ⟨t, G, ?_, g.row, k0.trans g.keep⟩
  unfold weave_holes
  simp only [hH1, l1', bind_some]
theorem size_eq {s P W D : Nat} (h : ShOK s P W D) {n : Nat} (hn : n < W) : weave_size ((W : Int), (D : Int), (P : Int), ((s + W * P : Nat) : Int), ()) (n : Int) = some (((wl s W n : Nat) : Int), ()) := by
  obtain ⟨w1, w2, _, _⟩ := h.wd
  have hsW := h.sW
  have hs1 := h.s1
  have hsub := h.sub
  unfold weave_size weave_size.on
  have r1 : rdI .i64 ([] ++ [Blk.cells [.int .i64 (W : Int), .int .i64 (D : Int), .int .i64 (P : Int), .int .i64 ((s + W * P : Nat) : Int)] .exact]) ([] : Heap).length 3 = some ((s + W * P : Nat) : Int) := rfl
  have r2 : rdI .i64 ([] ++ [Blk.cells [.int .i64 (W : Int), .int .i64 (D : Int), .int .i64 (P : Int), .int .i64 ((s + W * P : Nat) : Int)] .exact]) ([] : Heap).length 0 = some (W : Int) := rfl
  have r3 : rdI .i64 ([] ++ [Blk.cells [.int .i64 (W : Int), .int .i64 (D : Int), .int .i64 (P : Int), .int .i64 ((s + W * P : Nat) : Int)] .exact]) ([] : Heap).length 2 = some (P : Int) := rfl
  have e : IntKind.wrap .i64 (Int.tdiv (IntKind.wrap .i64 ((IntKind.wrap .i64 ((IntKind.wrap .i64 ((s : Int) - (n : Int))) + (W : Int))) - 1)) (W : Int)) = ((wl s W n : Nat) : Int) := by
    rw [wrap_i64 (n := (s : Int) - (n : Int)) (by omega) (by omega), wrap_i64 (n := (s : Int) - (n : Int) + (W : Int)) (by omega) (by omega), wrap_i64 (n := (s : Int) - (n : Int) + (W : Int) - 1) (by omega) (by omega), show (s : Int) - (n : Int) + (W : Int) - 1 = ((s - n + W - 1 : Nat) : Int) by omega, tdiv_nat]
    have hle : wl s W n ≤ s - n + W - 1 := Nat.div_le_self _ _
    show IntKind.wrap .i64 ((wl s W n : Nat) : Int) = _
    generalize wl s W n = z at hle
    exact wrap_i64 (by omega) (by omega)
  simp only [r1, bind_some, r2, r3, hsub, decide_eq_false (show ¬ (W : Int) = 0 by omega), cond_f, e]

/-- What a word may come to. -/
theorem decF_cases (s : Bytes) (n : Nat) (l : List Int) : decF s n l = ([], 0, 1) ∨ decF s n l = ([], 0, 280) ∨ ∃ o, decF s n l = (o, (dfc s o : Int), 0) ∧ o.length = s.length := by
  unfold decF
  cases hck : ckB s.length n with
  | false => left; rw [if_pos rfl]
  | true =>
    have hck' : 1 ≤ (n : Int) ∧ (n : Int) ≤ 32 ∧ (n : Int) < (s.length : Int) ∧ (s.length : Int) ≤ 255 := of_decide_eq_true hck
    right
    rw [if_neg (by decide)]
    by_cases hb : badL l s.length ∨ n < (lostK l s.length).length
    · left; rw [if_pos hb]
    · rw [if_neg hb]
      have hb1 : ¬ badL l s.length := fun h => hb (.inl h)
      cases hr : rtB s n with
      | true =>
        right
        refine ⟨s, ?_, rfl⟩
        rw [if_pos rfl]
        have : dfc s s = 0 := by
          unfold dfc
          rw [List.filter_eq_nil_iff.2 fun k _ => by simp]; rfl
        rw [this]; rfl
      | false =>
        rw [if_neg (by decide)]
        rcases decC_near (s := s) (n := n) (by omega) (lostK_nodup hb1) (lostK_in hb1) with h | ⟨o, h1, h2, _, _⟩
        · exact .inl h
        · exact .inr ⟨o, h1, h2⟩
theorem dfc_le (s o : Bytes) : dfc s o ≤ s.length := Nat.le_trans (List.length_filter_le _ _) (by rw [List.length_range]; exact Nat.le_refl _)
/-- The words of a page. -/
noncomputable def dwF (raw : Bytes) (W P : Nat) (l : List Int) (n : Nat) : Bytes × Int × Int := decF (pt raw W n) P (hoF W raw.length n l)
noncomputable def sumW (raw : Bytes) (W P : Nat) (l : List Int) : Nat → Int
  | 0 => 0
  | n + 1 => sumW raw W P l n + (dwF raw W P l n).2.1
noncomputable def outW (raw : Bytes) (W P : Nat) (l : List Int) (size : Nat) : Bytes := pl size fun j => co (dwF raw W P l (j % W)).1 (j / W)
theorem sumW_le {raw : Bytes} {W P : Nat} {l : List Int} (hW : 1 ≤ W) : ∀ n, (∀ m, m < n → (dwF raw W P l m).2.2 = 0) → 0 ≤ sumW raw W P l n ∧ sumW raw W P l n ≤ ((raw.length + W) * n : Nat)
  | 0, _ => ⟨Int.le_refl _, by rw [Nat.mul_zero]; exact Int.le_refl _⟩
  | n + 1, h => by
    obtain ⟨h1, h2⟩ := sumW_le (raw := raw) (P := P) (l := l) hW n fun m hm => h m (by omega)
    have h3 := h n (by omega)
    rw [sumW]
    rcases decF_cases (pt raw W n) P (hoF W raw.length n l) with e | e | ⟨o, e, _⟩
    · unfold dwF at h3; rw [e] at h3; exact absurd h3 (by decide)
    · unfold dwF at h3; rw [e] at h3; exact absurd h3 (by decide)
    · have h4 := dfc_le (pt raw W n) o
      rw [pt_len _ hW] at h4
      have h5 : wl raw.length W n ≤ raw.length + W := Nat.le_trans (Nat.div_le_self _ _) (by omega)
      unfold dwF
      rw [e, Nat.mul_succ]
      show 0 ≤ _ + (dfc (pt raw W n) o : Int) ∧ _ + (dfc (pt raw W n) o : Int) ≤ _
      omega
set_option maxHeartbeats 1000000 in
theorem word_loop {G : Heap} {b c s W n : Nat} {D P : Int} {R : Int} {w : Bytes} {f : Nat → UInt8} {H0 H1 H2 H3 : Heap} {k e many : Int} (hW : 1 ≤ W) (hn : n < W) (hs : s < 100000) (hW2 : W < 100000) (hb : H0.length = b) (hsh : G[b]? = some (Blk.cells [.int .i64 (W : Int), .int .i64 D, .int .i64 P, .int .i64 R] .exact)) (hbc : b ≠ c) (ba : BAt G c s f) (hw : w.length ≥ wl s W n) :
    ∃ G2, loopW (weave_Decode.s1 H0 (⟨some (c, 0), s, s⟩, H1) (many, (n : Int), ()) ((w, k, e, ()), H2) (((wl s W n : Nat) : Int), ())) (0, ()) G = some ((), G2) ∧ BAt G2 c s (fun j => if j % W = n then co w (j / W) else f j) ∧ Keep (fun j => j = c) G G2 := by
  obtain ⟨x, G2, l1, g1, g2⟩ := loop_rise (step := weave_Decode.s1 H0 (⟨some (c, 0), s, s⟩, H1) (many, (n : Int), ()) ((w, k, e, ()), H2) (((wl s W n : Nat) : Int), ())) (wl s W n) (fun i y G' => y = ((i : Int), ()) ∧ BAt G' c s (fun j => if j % W = n ∧ j / W < i then co w (j / W) else f j) ∧ Keep (fun j => j = c) G G') (fun _ G' => BAt G' c s (fun j => if j % W = n then co w (j / W) else f j) ∧ Keep (fun j => j = c) G G')
    (by
      rintro i _ G' hi ⟨rfl, g1, g2⟩
      left
      obtain ⟨_, q2, _, _⟩ := sh_at (g2.get hsh (fun h => hbc h))
      have hlt := (wl_lt hW).1 hi
      have hlt' : i * W + n < s := by omega
      have hle : i ≤ i * W := Nat.le_mul_of_pos_right i (by omega)
      have hix : IntKind.wrap .i64 ((IntKind.wrap .i64 ((i : Int) * (W : Int))) + (n : Int)) = ((i * W + n : Nat) : Int) := by
        rw [← Int.natCast_mul, wrap_i64 (n := ((i * W : Nat) : Int)) (by omega) (by omega), wrap_i64 (by omega) (by omega)]; omega
      obtain ⟨G3, a1, a2, a3⟩ := g1.set hlt' (co w i)
      have hidx : idxS w (i : Int) = some (un (co w i)) := by rw [idx_of (by omega), co_lt (by omega)]
      refine ⟨(((i + 1 : Nat) : Int), ()), G3, ?_, rfl, a2.congr fun j hj => ?_, g2.trans a3⟩
      · unfold weave_Decode.s1
        simp only [hb, decide_eq_true (show (i : Int) < ((wl s W n : Nat) : Int) by omega), cond_t, q2, bind_some, hidx, hix, BAt.at hlt', a1, wrap_succ (show i < 9223372036854775807 by omega)]
      · by_cases e : j = i * W + n
        · have h1 : j % W = n := by rw [e, Nat.add_comm, Nat.add_mul_mod_self_right, Nat.mod_eq_of_lt hn]
          have h2 : j / W = i := by rw [e, Nat.add_comm, Nat.add_mul_div_right _ _ (by omega), Nat.div_eq_of_lt hn, Nat.zero_add]
          rw [if_pos e, if_pos ⟨h1, by omega⟩, h2]
        · rw [if_neg e]
          by_cases h1 : j % W = n ∧ j / W < i
          · rw [if_pos h1, if_pos ⟨h1.1, by omega⟩]
          · rw [if_neg h1, if_neg fun h2 => ?_]
            have h3 : j / W = i := by
              have : ¬ j / W < i := fun h4 => h1 ⟨h2.1, h4⟩
              omega
            have h5 := Nat.div_add_mod j W
            rw [h2.1, h3, Nat.mul_comm] at h5
            exact e h5.symm)
    (by
      rintro _ G' ⟨rfl, g1, g2⟩
      refine ⟨(), G', ?_, g1.congr fun j hj => ?_, g2⟩
      · unfold weave_Decode.s1
        simp only [decide_eq_false (show ¬ ((wl s W n : Nat) : Int) < ((wl s W n : Nat) : Int) by omega), cond_f]
      · by_cases h1 : j % W = n
        · have h5 := Nat.div_add_mod j W
          rw [h1, Nat.mul_comm] at h5
          rw [if_pos h1, if_pos ⟨h1, (wl_lt hW).2 (by omega)⟩]
        · rw [if_neg h1, if_neg fun h => h1 h.1])
    (y := (((0 : Nat) : Int), ())) (H := G) ⟨rfl, ba.congr fun j _ => by rw [if_neg fun h => absurd h.2 (Nat.not_lt_zero _)], Keep.refl _ _⟩
  exact ⟨G2, l1, g1, g2⟩
end Ev
