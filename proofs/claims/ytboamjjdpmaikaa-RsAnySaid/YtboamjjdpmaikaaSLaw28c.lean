/- The law RsDecodes. -/
import Derived.Test.YtboamjjdpmaikaaSLaw28b
namespace Ev
open Go (IntKind)

/-! Counting. -/
def cN (L : Nat) (p : Nat → Bool) : Nat := ((List.range L).filter p).length
theorem cN_succ (L : Nat) (p : Nat → Bool) : cN (L + 1) p = cN L p + (if p L = true then 1 else 0) := by
  unfold cN
  rw [List.range_succ, List.filter_append, List.length_append]
  congr 1
  cases h : p L with
  | true => rw [List.filter_cons_of_pos h]; rfl
  | false => rw [List.filter_cons_of_neg (by rw [h]; decide)]; rfl
theorem cN_congr {p q : Nat → Bool} : ∀ {L : Nat}, (∀ k, k < L → p k = q k) → cN L p = cN L q
  | 0, _ => rfl
  | L + 1, h => by rw [cN_succ, cN_succ, cN_congr fun k hk => h k (by omega), h L (by omega)]
theorem cN_split {p : Nat → Bool} {a : Nat} : ∀ {L : Nat}, a < L → cN L p = cN L (fun k => p k && k != a) + (if p a = true then 1 else 0)
  | 0, h => absurd h (Nat.not_lt_zero _)
  | L + 1, h => by
    rw [cN_succ, cN_succ]
    by_cases ha : a = L
    · subst ha
      have : cN a (fun k => p k && k != a) = cN a p := cN_congr fun k hk => by
        have : (k != a) = true := bne_iff_ne.2 (by omega)
        rw [this, Bool.and_true]
      rw [this]
      simp
    · rw [cN_split (L := L) (a := a) (by omega)]
      have : (L != a) = true := bne_iff_ne.2 (by omega)
      rw [this, Bool.and_true]
      omega
theorem cN_le (L : Nat) (p : Nat → Bool) : cN L p ≤ L := Nat.le_trans (List.length_filter_le _ _) (by rw [List.length_range]; exact Nat.le_refl _)
theorem cN_mono {p q : Nat → Bool} : ∀ {L : Nat}, (∀ k, k < L → p k = true → q k = true) → cN L p ≤ cN L q
  | 0, _ => Nat.le_refl 0
  | L + 1, h => by
    rw [cN_succ, cN_succ]
    have := cN_mono (L := L) fun k hk => h k (by omega)
    have := h L (by omega)
    by_cases hp : p L = true
    · rw [if_pos hp, if_pos (this hp)]; omega
    · rw [if_neg hp]; omega
theorem cN_or (p q : Nat → Bool) : ∀ L, cN L (fun k => p k || q k) ≤ cN L p + cN L q
  | 0 => Nat.le_refl 0
  | L + 1 => by
    rw [cN_succ, cN_succ, cN_succ]
    have := cN_or p q L
    cases p L <;> cases q L <;> simp <;> omega
theorem cN_list {L : Nat} {l : List Nat} (hn : l.Nodup) (hl : ∀ k ∈ l, k < L) : cN L (fun k => l.contains k) = l.length := by
  refine len_same (List.Pairwise.filter _ List.nodup_range) hn fun k => ?_
  rw [List.mem_filter, List.mem_range, List.contains_iff_mem]
  exact ⟨fun h => h.2, fun h => ⟨hl k h, h⟩⟩
open Classical in
theorem cnt_rev {s c : Bytes} (hl : c.length = s.length) {l : List Int} (hb : ¬ badL l s.length) (p : Nat → Bool) (hp : ∀ k, k < s.length → (p k = true ↔ (k : Int) ∈ l)) : ((List.range s.length).filter fun m => decide (co (rv s) m ≠ co (rv c) m ∧ m ∉ (lostK l s.length).map Int.toNat)).length = cN s.length fun k => co s k != co c k && !(p k) := by
  have h2 : (((List.range s.length).filter fun m => decide (co (rv s) m ≠ co (rv c) m ∧ m ∉ (lostK l s.length).map Int.toNat)).map fun m => s.length - 1 - m).Nodup := nodup_map (List.Pairwise.filter _ List.nodup_range) fun a ha b hb hab => by
    have := List.mem_range.1 (List.mem_filter.1 ha).1
    have := List.mem_range.1 (List.mem_filter.1 hb).1
    omega
  have hpn : ∀ k, k < s.length → (p k = false ↔ (k : Int) ∉ l) := fun k hk => by
    rw [← hp k hk]
    cases p k <;> simp
  have h3 := len_same (l' := (List.range s.length).filter fun k => co s k != co c k && !(p k)) h2 (List.Pairwise.filter _ List.nodup_range) fun k => by
    rw [List.mem_map, List.mem_filter, List.mem_range, Bool.and_eq_true, bne_iff_ne, Bool.not_eq_true']
    constructor
    · rintro ⟨m, hm, rfl⟩
      obtain ⟨h4, h5⟩ := List.mem_filter.1 hm
      have h4 := List.mem_range.1 h4
      obtain ⟨h5, h6⟩ := of_decide_eq_true h5
      rw [co_rv, co_rv, hl, if_pos h4, if_pos h4] at h5
      refine ⟨by omega, h5, (hpn _ (by omega)).2 fun h7 => h6 ?_⟩
      have := (lostK_nat hb (show s.length - 1 - m < s.length by omega)).2 h7
      rw [show s.length - 1 - (s.length - 1 - m) = m by omega] at this
      exact this
    · rintro ⟨h4, h5, h6⟩
      refine ⟨s.length - 1 - k, List.mem_filter.2 ⟨List.mem_range.2 (by omega), decide_eq_true ⟨?_, fun h7 => (hpn k h4).1 h6 ((lostK_nat hb h4).1 h7)⟩⟩, by omega⟩
      rw [co_rv, co_rv, hl, if_pos (by omega), if_pos (by omega), show s.length - 1 - (s.length - 1 - k) = k by omega]
      exact h5
  rw [List.length_map] at h3
  exact h3
/-- A word of which not too many bytes are others, or lost. -/
theorem dec_ok {s c : Bytes} {n : Nat} {l : List Int} (hck : ckB s.length n = true) (hl : c.length = s.length) (hc : rtB c n = true) (p : Nat → Bool) (hb : ¬ badL l s.length) (hp : ∀ k, k < s.length → (p k = true ↔ (k : Int) ∈ l)) (hd : 2 * (cN s.length fun k => co s k != co c k && !(p k)) + cN s.length p ≤ n) : decF s n l = (c, (dfc s c : Int), 0) := by
  have hck' : 1 ≤ (n : Int) ∧ (n : Int) ≤ 32 ∧ (n : Int) < (s.length : Int) ∧ (s.length : Int) ≤ 255 := of_decide_eq_true hck
  have hKl : (lostK l s.length).length = cN s.length p := lostK_len hb p hp
  unfold decF
  rw [hck, if_neg (by decide), if_neg (fun h => h.elim hb fun h => by omega)]
  cases hr : rtB s n with
  | true =>
    have hdf : dfc s c ≤ n := by
      have h1 : dfc s c = cN s.length fun k => co s k != co c k := rfl
      have h2 := cN_or (fun k => co s k != co c k && !(p k)) p s.length
      have h3 : cN s.length (fun k => co s k != co c k) ≤ cN s.length fun k => (co s k != co c k && !(p k)) || p k := cN_mono fun k _ h => by
        rw [h, Bool.true_and]
        cases p k <;> rfl
      omega
    have := far (by omega) hl hr hc hdf
    subst this
    rw [if_pos rfl]
    have : dfc s s = 0 := by
      unfold dfc
      rw [List.filter_eq_nil_iff.2 fun k _ => by simp]; rfl
    rw [this]; rfl
  | false =>
    rw [if_neg (by decide)]
    refine decC_ok (by omega) (by omega) hl hc hr (lostK_nodup hb) (lostK_in hb) ?_
    have := cnt_rev hl hb p hp
    rw [hKl]
    have h4 : ∀ x, x = (cN s.length fun k => co s k != co c k && !(p k)) → 2 * x + cN s.length p ≤ n := fun x hx => by rw [hx]; exact hd
    refine h4 _ ?_
    rw [← this]

/-! Bytes that are others, and those that are lost, one behind the other. -/
structure DecI (w : Bytes) (n : Nat) (b : Bytes) (u : Nat → Bool) (ls : List Nat) (cost many : Nat) : Prop where
  len : b.length = w.length
  low : cost ≤ n
  mem : ∀ k ∈ ls, k < w.length ∧ u k = true
  nodup : ls.Nodup
  same : ∀ k, k < w.length → u k = false → co b k = co w k
  many : many = cN w.length fun k => co b k != co w k
  few : 2 * (cN w.length fun k => co b k != co w k && !(ls.contains k)) + ls.length ≤ cost
theorem xor_ne {a x : UInt8} : a ^^^ x = a ↔ x = 0 := by
  constructor
  · intro h
    have h3 := congrArg (fun y => a ^^^ y) h
    simp only [UInt8.xor_self, ← UInt8.xor_assoc, UInt8.zero_xor] at h3
    exact h3
  · rintro rfl; exact UInt8.xor_zero
theorem DecI.step {w : Bytes} {n : Nat} {b : Bytes} {u : Nat → Bool} {ls : List Nat} {cost many : Nat} (h : DecI w n b u ls cost many) {at' : Nat} {bits : UInt8} {lost : Bool} (ha : at' < w.length) (hu : u at' = false) (hc : cost + (if lost = true then 1 else 2) ≤ n) (hz : lost = true ∨ bits ≠ 0) :
    DecI w n (b.set at' (co b at' ^^^ bits)) (fun k => if k = at' then true else u k) (if lost = true then ls ++ [at'] else ls) (cost + (if lost = true then 1 else 2)) (if bits = 0 then many else many + 1) := by
  have hs := h.same at' ha hu
  have hnl : at' ∉ ls := fun hm => by have := (h.mem at' hm).2; rw [hu] at this; cases this
  have hco : ∀ k, co (b.set at' (co b at' ^^^ bits)) k = if k = at' then co w at' ^^^ bits else co b k := fun k => by
    rw [co_set]
    by_cases hk : k = at'
    · rw [if_pos hk, if_pos ⟨hk, by rw [h.len]; exact ha⟩, hs]
    · rw [if_neg hk, if_neg fun x => hk x.1]
  refine ⟨by rw [List.length_set]; exact h.len, hc, ?_, ?_, ?_, ?_, ?_⟩
  · intro k hk
    by_cases hl : lost = true
    · rw [if_pos hl] at hk
      rcases List.mem_append.1 hk with hk | hk
      · obtain ⟨h1, h2⟩ := h.mem k hk
        refine ⟨h1, ?_⟩
        by_cases e : k = at'
        · simp only [if_pos e]
        · simp only [if_neg e]; exact h2
      · rw [List.mem_singleton] at hk
        exact ⟨hk ▸ ha, by simp only [if_pos hk]⟩
    · rw [if_neg hl] at hk
      obtain ⟨h1, h2⟩ := h.mem k hk
      refine ⟨h1, ?_⟩
      by_cases e : k = at'
      · simp only [if_pos e]
      · simp only [if_neg e]; exact h2
  · by_cases hl : lost = true
    · rw [if_pos hl, List.nodup_append]
      refine ⟨h.nodup, List.nodup_cons.2 ⟨List.not_mem_nil, List.nodup_nil⟩, fun x hx y hy hxy => ?_⟩
      rw [List.mem_singleton] at hy
      exact hnl (hy ▸ hxy ▸ hx)
    · rw [if_neg hl]; exact h.nodup
  · intro k hk hku
    by_cases e : k = at'
    · simp only [if_pos e] at hku; cases hku
    · simp only [if_neg e] at hku
      rw [hco, if_neg e]; exact h.same k hk hku
  · rw [cN_split (p := fun k => co (b.set at' (co b at' ^^^ bits)) k != co w k) ha]
    have h1 : cN w.length (fun k => (co (b.set at' (co b at' ^^^ bits)) k != co w k) && k != at') = many := by
      rw [h.many]
      refine cN_congr fun k hk => ?_
      rw [hco]
      by_cases e : k = at'
      · subst e
        rw [if_pos rfl, hs]; simp
      · rw [if_neg e, bne_iff_ne.2 e, Bool.and_true]
    rw [h1, hco, if_pos rfl]
    by_cases hb : bits = 0
    · rw [if_pos hb, hb, UInt8.xor_zero, if_neg (by simp), Nat.add_zero]
    · rw [if_neg hb, if_pos (bne_iff_ne.2 fun e => hb (xor_ne.1 e))]
  · have hf := h.few
    rw [cN_split (p := fun k => co (b.set at' (co b at' ^^^ bits)) k != co w k && !((if lost = true then ls ++ [at'] else ls).contains k)) ha]
    have h1 : cN w.length (fun k => (co (b.set at' (co b at' ^^^ bits)) k != co w k && !((if lost = true then ls ++ [at'] else ls).contains k)) && k != at') = cN w.length fun k => co b k != co w k && !(ls.contains k) := cN_congr fun k hk => by
      rw [hco]
      by_cases e : k = at'
      · subst e
        rw [if_pos rfl, hs]; simp
      · rw [if_neg e, bne_iff_ne.2 e, Bool.and_true]
        by_cases hl : lost = true
        · rw [if_pos hl]
          congr 2
          rw [Bool.eq_iff_iff, List.contains_iff_mem, List.contains_iff_mem, List.mem_append, List.mem_singleton]
          exact ⟨fun h => h.elim id fun h => absurd h e, .inl⟩
        · rw [if_neg hl]
    rw [h1]
    by_cases hl : lost = true
    · simp only [if_pos hl]
      have : (ls ++ [at']).contains at' = true := List.contains_iff_mem.2 (List.mem_append_right _ (List.mem_singleton.2 rfl))
      rw [this, Bool.not_true, Bool.and_false, if_neg (by decide), List.length_append, List.length_singleton]
      omega
    · simp only [if_neg hl]
      split <;> omega

/-! In the heap. -/
def UAt (H : Heap) (c n : Nat) (f : Nat → Bool) : Prop := H[c]? = some (.cells (arrC n fun k => [.bool (f k)]) .exact)
theorem UAt.get {H : Heap} {c n : Nat} {f : Nat → Bool} (h : UAt H c n f) {i : Nat} (hi : i < n) : rdB H c i = some (f i) := by
  have := arrC_get (f := fun k => [C.bool (f k)]) (es := 1) (fun _ => rfl) (j := 0) (by decide) hi
  rw [Nat.mul_one, Nat.add_zero] at this
  exact rdB_of h this
theorem UAt.set {H : Heap} {c n : Nat} {f : Nat → Bool} (h : UAt H c n f) {i : Nat} (hi : i < n) (x : Bool) : ∃ G, wr H c i [.bool x] = some G ∧ UAt G c n (fun k => if k = i then x else f k) ∧ Keep (fun j => j = c) H G := by
  have hl := arrC_length (f := fun k => [C.bool (f k)]) (es := 1) (fun _ => rfl) n
  have hs := arrC_set (f := fun k => [C.bool (f k)]) (es := 1) (fun _ => rfl) (j := 0) (by decide) (.bool x) hi
  rw [Nat.mul_one, Nat.add_zero] at hs
  refine ⟨_, wr1_of h (by decide) (by omega), ?_, Keep.set _ _ _ rfl⟩
  unfold UAt
  rw [set_get (get_lt h), hs]
  congr 2
  refine arrC_congr fun k _ => ?_
  by_cases hk : k = i
  · subst hk; simp
  · simp [hk]
theorem mk_bools {H : Heap} {n : Nat} (h : n ≤ 35184372088832) : mkS H 1 [.bool false] (n : Int) (n : Int) = some (⟨some (H.length, 0), n, n⟩, H ++ [.cells (arrC n fun _ => [.bool false]) .exact]) := by
  unfold mkS
  have : decide (0 ≤ (n : Int) ∧ (n : Int) ≤ (n : Int) ∧ (n : Int).toNat * 1 ≤ maxRow ∧ (n : Int).toNat ≤ maxRow) = true := decide_eq_true ⟨by omega, by omega, by unfold maxRow; omega, by unfold maxRow; omega⟩
  rw [this, cond_t, Int.toNat_natCast]
  have : rep n [C.bool false] = arrC n fun _ => [.bool false] := by
    unfold rep
    clear h this
    induction n with
    | zero => rfl
    | succ n ih => rw [List.replicate_succ', List.flatten_append, ih, arrC]; rfl
  rw [this]
theorem spot_at {H : Heap} {s : Sl} {rows : List (Tup [.int .i64, .int .u8, .bool])} (h : Row H 3 s (rowsOf [.int .i64, .int .u8, .bool] rows)) {i : Nat} (hi : i < rows.length) : ∃ b o, Sl.at 3 s (i : Int) = some (b, o) ∧ rdI .i64 H b o = some rows[i].1 ∧ rdI .u8 H b (o + 1) = some rows[i].2.1 ∧ rdB H b (o + 2) = some rows[i].2.2.1 := by
  obtain ⟨b, o, _, h1, _, cs, bk, h2, h3, h4⟩ := Row.at (cts := [.int .i64, .int .u8, .bool]) h hi (by decide)
  have hg : ∀ j, j < 3 → cs[o + j]? = (Tup.mk [.int .i64, .int .u8, .bool] rows[i])[j]? := fun j hj => by
    rw [← h4, List.getElem?_take, if_pos (by show j < 3; exact hj), List.getElem?_drop]
  refine ⟨b, o, h1, rdI_of h2 (hg 0 (by decide)), rdI_of h2 (hg 1 (by decide)), rdB_of h2 (hg 2 (by decide))⟩
theorem u8_of {v : Int} (h0 : 0 ≤ v) (h1 : v ≤ 255) : ∃ x : UInt8, v = un x := ⟨UInt8.ofNat v.toNat, by rw [un_of (by omega)]; omega⟩
set_option maxHeartbeats 2000000 in
theorem RsDecodes_true (x0 : Bytes) (x1 : Int) (x2 : Sl) {H : Heap} (_ : x0.length ≤ 140737488351232) (_ : wfC (.int .i64 x1)) (hx2 : Came [.int .i64, .int .u8, .bool] [] x2 H) : ∃ H', law28_RsDecodes x0 x1 x2 H = some ((true, ()), H') := by
  obtain ⟨rows, hrow, hrl, hwf, _⟩ := came_rows hx2
  obtain ⟨n, n1, n2, hn⟩ := par15 x1
  obtain ⟨l1, l2⟩ := few_len x0
  unfold law28_RsDecodes
  generalize hs : fewF x0 = s at l1 l2
  have hel := enc_len s n
  have her := enc_right s n
  simp only [few_eq, hs, bind_some, hn, encode_ok s n (by omega) n1 (by omega) (by omega) (by omega), awake28_eq, Bool.not_true, cond_f, decide_true]
  generalize hw : encF s n = w at hel her
  generalize hL : w.length = L at hel
  -- the slices
  have hk2 : Keep (fun _ => False) H (H ++ [Blk.cells (cellsOf w) .loose]) := Keep.push _ _ _
  have hgr : GrowN H ((H ++ [Blk.cells (cellsOf w) .loose]) ++ [Blk.cells [] .exact]) 1 ⟨some ((H ++ [Blk.cells (cellsOf w) .loose]).length, 0), 0, 0⟩ (intC (([] : List Nat).map Int.ofNat)) := GrowN.em hk2 1
  have hmk := mk_bools (H := (H ++ [Blk.cells (cellsOf w) .loose]) ++ [Blk.cells [] .exact]) (n := L) (by omega)
  generalize hH5 : (H ++ [Blk.cells (cellsOf w) .loose]) ++ [Blk.cells [] .exact] = H5 at hgr hmk
  have hl4 : (H ++ [Blk.cells (cellsOf w) .loose]).length = H.length + 1 := by simp
  have hl5 : H5.length = H.length + 2 := by rw [← hH5]; simp
  rw [hl4] at hgr
  rw [hmk]
  simp only [bind_some, hl4, hl5]
  have hla : LAt H5 H.length L (co w) := by
    unfold LAt
    rw [← hH5, app_lt (by simp), app_last, ← cells_pl, ← hL, pl_co]
  obtain ⟨x, G, m1, b, u, ls, cost, many, sl, rfl, d1, d2, d3⟩ := loop_rise (step := law28_RsDecodes.s1 x1 x2 H (w, 0, ()) (⟨some (H.length + 2, 0), L, L⟩, H5 ++ [Blk.cells (arrC L fun _ => [.bool false]) .exact])) (min rows.length 40)
    (fun i y G => ∃ (b : Bytes) (u : Nat → Bool) (ls : List Nat) (cost many : Nat) (sl : Sl), y = (sl, (cost : Int), (many : Int), (i : Int), ()) ∧ DecI w n b u ls cost many ∧ GrowN H G 1 sl (intC (ls.map Int.ofNat)) ∧ LAt G H.length L (co b) ∧ UAt G (H.length + 2) L u ∧ (∀ a, sl.p = some a → a.1 ≠ H.length ∧ a.1 ≠ H.length + 2) ∧ H.length + 2 < G.length ∧ many ≤ i)
    (fun x G => ∃ (b : Bytes) (u : Nat → Bool) (ls : List Nat) (cost many : Nat) (sl : Sl), x = (sl, (many : Int), ()) ∧ DecI w n b u ls cost many ∧ GrowN H G 1 sl (intC (ls.map Int.ofNat)) ∧ LAt G H.length L (co b))
    (by
      rintro i _ G hi ⟨b, u, ls, cost, many, sl, rfl, hI, g, la, ua, hne, hlen, hmi⟩
      left
      have hi1 : i < rows.length := by omega
      have hlt1 : decide ((i : Int) < (x2.len : Int)) = true := decide_eq_true (by omega)
      have hlt2 : decide ((i : Int) < 40) = true := decide_eq_true (by omega)
      have hz : decide ((L : Int) = 0) = false := decide_eq_false (by omega)
      have hrk : ∀ {G'}, Keep (fun _ => False) H G' → Row G' 3 x2 (rowsOf [.int .i64, .int .u8, .bool] rows) := fun k => hrow.keep k fun _ _ _ => id
      obtain ⟨rb, ro, r1, r2, r3, r4⟩ := spot_at (hrk g.keep) hi1
      have hwi := hwf _ (List.getElem_mem hi1)
      generalize hrr : rows[i] = r at r2 r3 r4 hwi
      obtain ⟨v0, v1, lost, _⟩ := r
      change Int at v0
      change Int at v1
      change Bool at lost
      have hv1 : 0 ≤ v1 ∧ v1 ≤ 255 := hwi (.int .u8 v1) (by simp [Tup.mk, CT.mk])
      obtain ⟨bits, rfl⟩ := u8_of hv1.1 hv1.2
      obtain ⟨at', ha1, ha2⟩ := tmod_pick v0 L (by omega) (by omega)
      have r2 : rdI .i64 G rb ro = some v0 := r2
      have r3 : rdI .u8 G rb (ro + 1) = some (un bits) := r3
      have r4 : rdB G rb (ro + 2) = some lost := r4
      have hat1 : Sl.at 1 ⟨some (H.length + 2, 0), L, L⟩ (at' : Int) = some (H.length + 2, at') := BAt.at ha1
      have hat2 : Sl.at 1 ⟨some (H.length, 0), L, L⟩ (at' : Int) = some (H.length, at') := BAt.at ha1
      have hu := ua.get ha1
      have hc : (cond lost (some (((1 : Int), ()), G)) (some ((2, ()), G)) : Option ((Int × Unit) × Heap)) = some ((((if lost = true then 1 else 2 : Nat) : Int), ()), G) := by cases lost <;> rfl
      have hcl : (if lost = true then 1 else 2 : Nat) ≤ 2 := by split <;> omega
      have hcc := hI.low
      have hwc : IntKind.wrap .i64 ((cost : Int) + ((if lost = true then 1 else 2 : Nat) : Int)) = ((cost + (if lost = true then 1 else 2) : Nat) : Int) := by
        generalize (if lost = true then 1 else 2 : Nat) = z at hcl
        rw [wrap_i64 (by omega) (by omega)]; omega
      have stay : ∀ q : Option (((Unit) ⊕ (Unit)) × Heap), q = some (.inr (), G) → ∃ y' G', (q.bind fun (p21 : ((Unit) ⊕ (Unit)) × Heap) => (some (Sum.inl (sl, (cost : Int), (many : Int), IntKind.wrap .i64 ((i : Int) + 1), ()), p21.2) : Option (((Sl × Int × Int × Int × Unit) ⊕ (Sl × Int × Unit)) × Heap))) = some (.inl y', G') ∧ ∃ (b : Bytes) (u : Nat → Bool) (ls : List Nat) (cost many : Nat) (sl : Sl), y' = (sl, (cost : Int), (many : Int), ((i + 1 : Nat) : Int), ()) ∧ DecI w n b u ls cost many ∧ GrowN H G' 1 sl (intC (ls.map Int.ofNat)) ∧ LAt G' H.length L (co b) ∧ UAt G' (H.length + 2) L u ∧ (∀ a, sl.p = some a → a.1 ≠ H.length ∧ a.1 ≠ H.length + 2) ∧ H.length + 2 < G'.length ∧ many ≤ i + 1 := fun q hq => by
        rw [hq, bind_some, wrap_succ (show i < 9223372036854775807 by omega)]
        exact ⟨_, _, rfl, b, u, ls, cost, many, sl, rfl, hI, g, la, ua, hne, hlen, by omega⟩
      unfold law28_RsDecodes.s1
      simp only [hlt1, hlt2, cond_t, r1, bind_some, r2, hL, hz, cond_f, r4, hc, ha2, hat1, hu, hwc, hn, hat2]
      by_cases c1 : u at' = true
      · rw [c1]
        simp only [cond_t, bind_some, sumR, wrap_succ (show i < 9223372036854775807 by omega)]
        exact ⟨_, _, rfl, b, u, ls, cost, many, sl, rfl, hI, g, la, ua, hne, hlen, by omega⟩
      have c1 : u at' = false := by cases h : u at' <;> simp_all
      by_cases c2 : n < cost + (if lost = true then 1 else 2)
      · simp only [c1, cond_f, decide_eq_true (show (n : Int) < ((cost + (if lost = true then 1 else 2) : Nat) : Int) by omega), cond_t, bind_some, sumR, wrap_succ (show i < 9223372036854775807 by omega)]
        exact ⟨_, _, rfl, b, u, ls, cost, many, sl, rfl, hI, g, la, ua, hne, hlen, by omega⟩
      by_cases c3 : lost = false ∧ bits = 0
      · obtain ⟨rfl, rfl⟩ := c3
        simp only [c1, cond_f, decide_eq_false (show ¬ (n : Int) < ((cost + (if (false : Bool) = true then 1 else 2) : Nat) : Int) by omega), Bool.not_false, cond_t, r3, bind_some, decide_eq_true (show un 0 = 0 from rfl), sumR, wrap_succ (show i < 9223372036854775807 by omega)]
        exact ⟨_, _, rfl, b, u, ls, cost, many, sl, rfl, hI, g, la, ua, hne, hlen, by omega⟩
      -- another byte
      have hgo : (cond (!lost) (cond (decide (un bits = 0)) (some ((.inr () : Unit ⊕ Unit), G)) (some (.inl (), G))) (some (.inl (), G)) : Option ((Unit ⊕ Unit) × Heap)) = some (.inl (), G) := by
        cases hlo : lost with
        | true => rfl
        | false =>
          have : bits ≠ 0 := fun h => c3 ⟨hlo, h⟩
          rw [decide_eq_false fun h => this ((un_zero _).1 h)]; rfl
      obtain ⟨G1, w1, w2, w3⟩ := ua.set ha1 true
      have hne1 : H.length ≠ H.length + 2 := by omega
      have la1 : LAt G1 H.length L (co b) := w3.get la (fun h => by have : H.length = H.length + 2 := h; omega)
      have hb1 := la1.get ha1
      have g1 : GrowN H G1 1 sl (intC (ls.map Int.ofNat)) := g.stay w3 fun j hj _ => by
        have hj : j = H.length + 2 := hj
        exact ⟨by omega, fun a ha => by rw [hj]; exact (hne a ha).2⟩
      obtain ⟨rb1, ro1, q1, q2, q3, q4⟩ := spot_at (hrk g1.keep) hi1
      rw [hrr] at q3
      have hbo : (rb, ro) = (rb1, ro1) := Option.some.inj (r1.symm.trans q1)
      obtain ⟨rfl, rfl⟩ := Prod.mk.inj hbo
      have q3 : rdI .u8 G1 rb (ro + 1) = some (un bits) := q3
      obtain ⟨G2, y1, y2, y3⟩ := la1.set ha1 (co b at' ^^^ bits)
      have ua2 : UAt G2 (H.length + 2) L (fun k => if k = at' then true else u k) := y3.get w2 (fun h => by have : H.length + 2 = H.length := h; omega)
      have g2 : GrowN H G2 1 sl (intC (ls.map Int.ofNat)) := g1.stay y3 fun j hj _ => by
        have hj : j = H.length := hj
        exact ⟨by omega, fun a ha => by rw [hj]; exact (hne a ha).1⟩
      obtain ⟨rb2, ro2, z1, z2, z3, z4⟩ := spot_at (hrk g2.keep) hi1
      rw [hrr] at z3 z4
      have hbo2 : (rb, ro) = (rb2, ro2) := Option.some.inj (r1.symm.trans z1)
      obtain ⟨rfl, rfl⟩ := Prod.mk.inj hbo2
      have z3 : rdI .u8 G2 rb (ro + 1) = some (un bits) := z3
      have z4 : rdB G2 rb (ro + 2) = some lost := z4
      have hI2 := hI.step (at' := at') (bits := bits) (lost := lost) (by omega) c1 (by omega) (by
        cases hlo : lost with
        | true => exact .inl rfl
        | false => exact .inr fun h => c3 ⟨hlo, h⟩)
      have la2 : LAt G2 H.length L (co (b.set at' (co b at' ^^^ bits))) := y2.congr fun k hk => by
        rw [co_set]
        have := hI.len
        by_cases e : k = at'
        · rw [if_pos e, if_pos ⟨e, by omega⟩]
        · rw [if_neg e, if_neg fun h => e h.1]
      have hm : (cond (!decide (un bits = 0)) (some (((IntKind.wrap .i64 ((many : Int) + 1)), ()), G2)) (some (((many : Int), ()), G2)) : Option ((Int × Unit) × Heap)) = some ((((if bits = 0 then many else many + 1 : Nat) : Int), ()), G2) := by
        by_cases hb : bits = 0
        · rw [decide_eq_true ((un_zero _).2 hb), if_pos hb]; rfl
        · rw [decide_eq_false (fun h => hb ((un_zero _).1 h)), if_neg hb, wrap_succ (by omega)]; rfl
      have hmle : (if bits = 0 then many else many + 1 : Nat) ≤ i + 1 := by split <;> omega
      have hlen2 : H.length + 2 < G2.length := by
        have := y3.len
        have := w3.len
        omega
      simp only [c1, cond_f, decide_eq_false (show ¬ (n : Int) < ((cost + (if lost = true then 1 else 2) : Nat) : Int) by omega), r3, bind_some, hgo, sumL, w1, hb1, q3, un_xor, y1, z3, hm, z4]
      cases hlo : lost with
      | true =>
        rw [hlo] at hI2
        simp only [if_true] at hI2
        have hll : ls.length ≤ cost := by have := hI.few; omega
        have hsll := g2.gr.len
        have hil : (intC (ls.map Int.ofNat)).length = ls.length := by simp [intC]
        obtain ⟨sl', G3, o1, o2, o3, o4, o5, o6⟩ := g2.one (bytes := 8) (new := [.int .i64 (at' : Int)]) (by decide) rfl (by omega) (by omega)
        have hsnoc : intC (ls.map Int.ofNat) ++ [.int .i64 (at' : Int)] = intC ((ls ++ [at']).map Int.ofNat) := by
          rw [List.map_append]; exact (intC_snoc (ls.map Int.ofNat) (Int.ofNat at')).symm
        rw [hsnoc] at o3
        simp only [cond_t, o1, bind_some, o2, wrap_succ (show i < 9223372036854775807 by omega)]
        obtain ⟨nb, hnb, hnb2⟩ := o6
        refine ⟨_, _, rfl, _, _, ls ++ [at'], _, _, sl', rfl, hI2, o3, o5.get la2 fun ⟨o, ho⟩ => (hne _ ho).1 rfl, o5.get ua2 fun ⟨o, ho⟩ => (hne _ ho).2 rfl, fun a ha => ?_, ?_, hmle⟩
        · rw [hnb] at ha
          cases ha
          exact ⟨by show nb ≠ _; omega, by show nb ≠ _; omega⟩
        · have := o5.len; omega
      | false =>
        rw [hlo] at hI2
        simp only [Bool.false_eq_true, if_false] at hI2
        simp only [cond_f, wrap_succ (show i < 9223372036854775807 by omega)]
        exact ⟨_, _, rfl, _, _, ls, _, _, sl, rfl, hI2, g2, la2, ua2, hne, hlen2, hmle⟩)
    (by
      rintro _ G ⟨b, u, ls, cost, many, sl, rfl, hI, g, la, ua, hne, hlen, hmi⟩
      refine ⟨(sl, (many : Int), ()), G, ?_, b, u, ls, cost, many, sl, rfl, hI, g, la⟩
      unfold law28_RsDecodes.s1
      by_cases h : rows.length < 40
      · simp only [show min rows.length 40 = rows.length by omega, decide_eq_false (show ¬ ((rows.length : Nat) : Int) < (x2.len : Int) by omega), cond_f]
      · have h40 : min rows.length 40 = 40 := by omega
        simp only [h40, decide_eq_false (show ¬ ((40 : Nat) : Int) < 40 by omega), cond_f]
        cases decide (((40 : Nat) : Int) < (x2.len : Int)) <;> rfl)
    (y := (⟨some (H.length + 1, 0), 0, 0⟩, ((0 : Nat) : Int), ((0 : Nat) : Int), ((0 : Nat) : Int), ())) (H := H5 ++ [Blk.cells (arrC L fun _ => [.bool false]) .exact])
    ⟨w, fun _ => false, [], 0, 0, _, rfl, ⟨rfl, Nat.zero_le _, fun k hk => absurd hk List.not_mem_nil, List.nodup_nil, fun _ _ _ => rfl, by
        have : cN w.length (fun k => co w k != co w k) = cN w.length fun _ => false := cN_congr fun k _ => by simp
        rw [this]
        exact (show cN w.length (fun _ => false) = 0 from by unfold cN; rw [List.filter_eq_nil_iff.2 fun k _ => by decide]; rfl).symm, by
        have : cN w.length (fun k => co w k != co w k && !(([] : List Nat).contains k)) = cN w.length fun _ => false := cN_congr fun k _ => by simp
        rw [this, show cN w.length (fun _ => false) = 0 from by unfold cN; rw [List.filter_eq_nil_iff.2 fun k _ => by decide]; rfl]
        exact Nat.le_refl 0⟩, hgr.more _, (Keep.push (fun _ => False) H5 _).get hla id, by
        show (H5 ++ _)[H.length + 2]? = _
        rw [← hl5]; exact app_last, fun a ha => by cases ha; exact ⟨by show H.length + 1 ≠ _; omega, by show H.length + 1 ≠ _; omega⟩, by simp; omega, Nat.le_refl _⟩
  have m1' : loopW (law28_RsDecodes.s1 x1 x2 H (w, 0, ()) (⟨some (H.length + 2, 0), L, L⟩, H5 ++ [Blk.cells (arrC L fun _ => [.bool false]) .exact])) (⟨some (H.length + 1, 0), 0, 0⟩, 0, 0, 0, ()) (H5 ++ [Blk.cells (arrC L fun _ => [.bool false]) .exact]) = some ((sl, (many : Int), ()), G) := m1
  have hbl := d1.len
  have hstr : strOf G ⟨some (H.length, 0), L, L⟩ = some b := by
    have := d3.poly.row.row
    unfold strOf
    rw [this, ← hL, ← hbl, pl_co]
    exact bytes_of_cells _
  have hck : ckB b.length n = true := decide_eq_true (by omega)
  have hmem : ∀ k : Nat, (k : Int) ∈ ls.map Int.ofNat ↔ k ∈ ls := fun k => by
    rw [List.mem_map]
    constructor
    · rintro ⟨j, h1, h2⟩
      have : j = k := Int.ofNat.inj h2
      exact this ▸ h1
    · intro h; exact ⟨k, h, rfl⟩
  have hdec := dec_ok (s := b) (c := w) (n := n) (l := ls.map Int.ofNat) hck hbl.symm her (fun k => ls.contains k) (fun ⟨v, h1, h2⟩ => by
      obtain ⟨j, h3, rfl⟩ := List.mem_map.1 h1
      have := (d1.mem j h3).1
      have h2 : (j : Int) < 0 ∨ (b.length : Int) ≤ (j : Int) := h2
      omega) (fun k _ => by rw [List.contains_iff_mem, hmem]) (by
      rw [cN_list d1.nodup fun k hk => by rw [hbl]; exact (d1.mem k hk).1, hbl]
      have := d1.few
      have := d1.low
      omega)
  have hll : ls.length ≤ n := by
    have := d1.few
    have := d1.low
    omega
  obtain ⟨G', f1, _⟩ := decode_eq (l := ls.map Int.ofNat) d2.row (by rw [List.length_map]; omega) b n (by omega) (by omega)
  rw [hdec] at f1
  refine ⟨G', ?_⟩
  have hdm : (dfc b w : Int) = (many : Int) := by
    rw [d1.many]
    unfold dfc cN
    rw [hbl]
  simp only [hL, m1', bind_some, hstr, f1, hdm, decide_true, cond_t]
end Ev
