/- Ranges over maps in plain functions: what comes of them in whatever order. -/
import Derived.Test.YtfmefnejaocopaaEvLoop
import Derived.Test.YtfmefnejaocopaaArr
set_option linter.unusedSimpArgs false
set_option linter.unusedVariables false
namespace Ev

theorem renP_id (p : Ptr) : renP (fun b => b) p = p := by cases p <;> rfl
theorem C.ren_id (c : C) : c.ren (fun b => b) = c := by
  cases c with
  | ptr p => simp [C.ren, renP_id]
  | sl es s => simp [C.ren, renP_id]
  | mp r => cases r <;> rfl
  | clo g ps => simp only [C.ren]; congr 1; exact (List.map_congr_left fun p _ => renP_id p).trans (List.map_id' ps)
  | _ => rfl
theorem cs_ren_id (cs : List C) : cs.map (C.ren fun b => b) = cs := (List.map_congr_left fun c _ => C.ren_id c).trans (List.map_id' cs)
theorem W.ren_id (x : W) : x.ren (fun b => b) = x := by
  cases x with
  | one c => simp [W.ren, C.ren_id]
  | agg cs => simp [W.ren, cs_ren_id]
theorem Blk.ren_id (x : Blk) : x.ren (fun b => b) = x := by
  cases x with
  | cells cs bk => simp [Blk.ren, cs_ren_id]
  | dead => rfl
  | mp es dc =>
    simp only [Blk.ren, W.ren_id]
    congr 1
    exact (List.map_congr_left fun x _ => rfl).trans (List.map_id' es)
theorem Alike.refl (H0 H : Heap) : Alike H0 H H :=
  ⟨fun b => b, fun b => b, fun _ => rfl, fun _ => rfl, fun _ _ => rfl, rfl, fun b => .inl (by cases H[b]? with | none => rfl | some x => simp [Blk.ren_id])⟩

/-- A range whose rounds are known in every order. -/
theorem eachW_of {S : Type} {step : Int → S → Heap → Option (S × Heap)} {m : Option Nat} {s : S} {H : Heap} {ks : List Int} {hd : Nat × Nat} (hk : mkeys H m = some ks) (hh : mhead H m = some hd) (hnd : ks.Nodup)
    (st : List Int → S) (F : List Int → Heap) (h0 : st [] = s) (h1 : F [] = H)
    (hs : ∀ (l : List Int) (k : Int), (∀ x ∈ l, x ∈ ks) → l.Nodup → k ∈ ks → k ∉ l → step k (st l) (F l) = some (st (l ++ [k]), F (l ++ [k])) ∧ mhead (F (l ++ [k])) m = some hd)
    (ha : ∀ l : List Int, l.Perm ks → st l = st ks ∧ Alike H (F l) (F ks)) : eachW step m s H = some (st ks, F ks) := by
  have run : ∀ (r l : List Int), (l ++ r).Nodup → (∀ x ∈ l ++ r, x ∈ ks) → runK step m hd r (st l) (F l) = some (st (l ++ r), F (l ++ r)) := by
    intro r
    induction r with
    | nil => intro l _ _; rw [List.append_nil]; rfl
    | cons k r ih =>
      intro l hn hm
      have hn' := List.nodup_append.1 hn
      obtain ⟨g1, g2⟩ := hs l k (fun x hx => hm x (by simp [hx])) hn'.1 (hm k (by simp)) (fun hx => hn'.2.2 k hx k (by simp) rfl)
      simp only [runK, g1]
      show (if mhead (F (l ++ [k])) m = some hd then _ else none) = _
      rw [if_pos g2]
      have := ih (l ++ [k]) (by rw [List.append_assoc]; exact hn) (fun x hx => hm x (by rw [List.append_assoc] at hx; exact hx))
      rw [List.append_assoc] at this
      exact this
  have all : ∀ l : List Int, l.Perm ks → runK step m hd l s H = some (st l, F l) := by
    intro l hl
    have := run l [] (by rw [List.nil_append]; exact hl.nodup_iff.2 hnd) (fun x hx => hl.subset (by simpa using hx))
    rw [List.nil_append, h0, h1] at this
    exact this
  unfold eachW
  simp only [hk, hh, Option.bind_some]
  rw [if_pos ⟨_, all ks (List.Perm.refl _), fun l hl => ⟨_, all l hl, ha l hl⟩⟩]
  exact all ks (List.Perm.refl _)
theorem eachW_nil {S : Type} {step : Int → S → Heap → Option (S × Heap)} {m : Option Nat} {s : S} {H : Heap} {hd : Nat × Nat} (hk : mkeys H m = some []) (hh : mhead H m = some hd) : eachW step m s H = some (s, H) :=
  eachW_of (ks := []) hk hh List.nodup_nil (fun _ => s) (fun _ => H) rfl rfl (fun _ _ _ _ h => absurd h List.not_mem_nil) (fun _ _ => ⟨rfl, Alike.refl _ _⟩)

/-! Rows of blocks that come with each key. -/
section
variable (len : Int → Nat)
/-- Where a key's blocks begin. -/
def kpos : List Int → Int → Nat
  | [], _ => 0
  | x :: l, k => if x = k then 0 else len x + kpos l k
/-- Whose block it is. -/
def kloc : List Int → Nat → Option (Int × Nat)
  | [], _ => none
  | x :: l, n => if n < len x then some (x, n) else kloc l (n - len x)
def ktot : List Int → Nat
  | [] => 0
  | x :: l => len x + ktot l
theorem kloc_pos : ∀ {l : List Int} {k : Int} {j : Nat}, k ∈ l → j < len k → kloc len l (kpos len l k + j) = some (k, j)
  | x :: l, k, j, h, hj => by
    rw [kpos, kloc]
    by_cases e : x = k
    · subst e; rw [if_pos rfl, Nat.zero_add, if_pos hj]
    · rw [if_neg e, if_neg (by omega), show len x + kpos len l k + j - len x = kpos len l k + j by omega]
      exact kloc_pos ((List.mem_cons.1 h).resolve_left (fun hh => e hh.symm)) hj
theorem kpos_loc : ∀ {l : List Int} {n : Nat} {k : Int} {j : Nat}, l.Nodup → kloc len l n = some (k, j) → n = kpos len l k + j ∧ j < len k ∧ k ∈ l
  | x :: l, n, k, j, hn, h => by
    rw [kloc] at h
    rw [List.nodup_cons] at hn
    by_cases e : n < len x
    · rw [if_pos e] at h
      cases h
      rw [kpos, if_pos rfl]
      exact ⟨by omega, e, by simp⟩
    · rw [if_neg e] at h
      obtain ⟨h1, h2, h3⟩ := kpos_loc hn.2 h
      have hx : x ≠ k := fun hh => hn.1 (by rw [hh]; exact h3)
      rw [kpos, if_neg hx]
      exact ⟨by omega, h2, List.mem_cons_of_mem _ h3⟩
theorem kloc_lt : ∀ {l : List Int} {n : Nat}, n < ktot len l ↔ (kloc len l n).isSome = true
  | [], n => by simp [ktot, kloc]
  | x :: l, n => by
    rw [ktot, kloc]
    by_cases e : n < len x
    · rw [if_pos e]; simp; omega
    · rw [if_neg e, ← kloc_lt (l := l)]; omega
theorem ktot_perm {l l' : List Int} (h : l.Perm l') : ktot len l = ktot len l' := by
  induction h with
  | nil => rfl
  | cons x _ ih => rw [ktot, ktot, ih]
  | swap x y l => simp only [ktot]; omega
  | trans _ _ h1 h2 => exact h1.trans h2
theorem kpos_append {l : List Int} {k : Int} (h : k ∉ l) (r : List Int) : kpos len (l ++ k :: r) k = ktot len l := by
  induction l with
  | nil => simp [kpos, ktot]
  | cons x l ih =>
    rw [List.mem_cons] at h
    rw [List.cons_append, kpos, if_neg (fun e => h (.inl e.symm)), ih (fun hh => h (.inr hh)), ktot]
theorem kpos_left {l : List Int} {k : Int} (h : k ∈ l) (r : List Int) : kpos len (l ++ r) k = kpos len l k := by
  induction l with
  | nil => simp at h
  | cons x l ih =>
    rw [List.cons_append, kpos, kpos]
    by_cases e : x = k
    · rw [if_pos e, if_pos e]
    · rw [if_neg e, if_neg e, ih ((List.mem_cons.1 h).resolve_left fun hh => e hh.symm)]
/-- The numbers of one order in the other. -/
def kren (N : Nat) (l l' : List Int) (b : Nat) : Nat :=
  if b < N then b else match kloc len l (b - N) with
    | some (k, j) => N + (kpos len l' k + j)
    | none => b
theorem kren_low {N : Nat} {l l' : List Int} {b : Nat} (h : b < N) : kren len N l l' b = b := by rw [kren, if_pos h]
theorem kren_at {N : Nat} {l l' : List Int} {k : Int} {j : Nat} (h : k ∈ l) (hj : j < len k) : kren len N l l' (N + (kpos len l k + j)) = N + (kpos len l' k + j) := by
  rw [kren, if_neg (by omega), show N + (kpos len l k + j) - N = kpos len l k + j by omega, kloc_pos len h hj]
theorem kren_inv {N : Nat} {l l' : List Int} (hp : l.Perm l') (hn : l.Nodup) (b : Nat) : kren len N l' l (kren len N l l' b) = b := by
  by_cases h : b < N
  · rw [kren_low len h, kren_low len h]
  · cases hk : kloc len l (b - N) with
    | none =>
      have e : kren len N l l' b = b := by rw [kren, if_neg h, hk]
      rw [e]
      have h1 : ¬ b - N < ktot len l := fun hh => by rw [kloc_lt, hk] at hh; cases hh
      rw [ktot_perm len hp] at h1
      cases hk' : kloc len l' (b - N) with
      | none => rw [kren, if_neg h, hk']
      | some q => exact absurd ((kloc_lt len).2 (by rw [hk']; rfl)) h1
    | some q =>
      obtain ⟨k, j⟩ := q
      obtain ⟨h1, h2, h3⟩ := kpos_loc len hn hk
      have e : b = N + (kpos len l k + j) := by omega
      rw [e, kren_at len h3 h2, kren_at len (hp.subset h3) h2]

/-- Blocks that were laid key by key, in two orders. -/
theorem alike_rows {H0 G1 G2 : Heap} {l l' : List Int} (hp : l.Perm l') (hn : l.Nodup) (hl : G1.length = H0.length) (hl2 : G2.length = H0.length) (B1 B2 : Heap) (h1 : B1.length = ktot len l) (h2 : B2.length = ktot len l')
    (hG : ∀ b, b < H0.length → G2[b]? = (G1[b]?).map (Blk.ren (kren len H0.length l l')) ∨ (G1[b]? = H0[b]? ∧ G2[b]? = H0[b]?))
    (hB : ∀ k ∈ l, ∀ j, j < len k → B2[kpos len l' k + j]? = (B1[kpos len l k + j]?).map (Blk.ren (kren len H0.length l l'))) : Alike H0 (G1 ++ B1) (G2 ++ B2) := by
  refine ⟨kren len H0.length l l', kren len H0.length l' l, kren_inv len hp hn, kren_inv len hp.symm (hp.nodup_iff.1 hn), fun b hb => kren_low len hb, ?_, fun b => ?_⟩
  · rw [List.length_append, List.length_append, h1, h2, hl, hl2, ktot_perm len hp]
  · by_cases hb : b < H0.length
    · rw [kren_low len hb, List.getElem?_append_left (by omega), List.getElem?_append_left (by omega)]
      rcases hG b hb with h | ⟨h, h'⟩
      · exact .inl h
      · exact .inr ⟨hb, h, h'⟩
    · left
      cases hk : kloc len l (b - H0.length) with
      | none =>
        have hge : ¬ b - H0.length < ktot len l := fun hh => by rw [kloc_lt, hk] at hh; cases hh
        have hge' := hge
        rw [ktot_perm len hp] at hge'
        rw [kren, if_neg hb, hk]
        simp only
        rw [List.getElem?_eq_none (by rw [List.length_append]; omega), List.getElem?_eq_none (by rw [List.length_append]; omega)]
        rfl
      | some q =>
        obtain ⟨k, j⟩ := q
        obtain ⟨g1, g2, g3⟩ := kpos_loc len hn hk
        have e : b = H0.length + (kpos len l k + j) := by omega
        rw [e, kren_at len g3 g2, List.getElem?_append_right (by omega), List.getElem?_append_right (by omega), hl, hl2, show H0.length + (kpos len l k + j) - H0.length = kpos len l k + j by omega, show H0.length + (kpos len l' k + j) - H0.length = kpos len l' k + j by omega]
        exact hB k g3 j g2
end
end Ev
