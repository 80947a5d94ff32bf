/- Every order that is drawn tells the same. -/
import Derived.Test.YtnndecgjcgpmbaaEvDraw
namespace Ev
open Go

section
variable {P : Program} {calls : Nat → Option Callee} {fids : Nat → Option FuncId} {nt : Nat} {ops : Array Oper}

/-- The listed operations go with all that comes before them. -/
def Closed (ops : Array Oper) (L : Array Bool) : Prop := ∀ i o, ops[i]? = some o → L.getD i false = true → ∀ e ∈ o.after.toList, Region.binds .any e = true → L.getD e.on false = true

theorem Closed.reach {L : Array Bool} (hc : Closed ops L) {i k : Nat} (h : Reach ops i k) : L.getD i false = true → L.getD k false = true := by
  induction h with
  | one h1 h2 h3 h4 => intro hi; rw [← h4]; exact hc _ _ h1 hi _ h2 h3
  | more h1 h2 h3 _ ih => intro hi; exact ih (hc _ _ h1 hi _ h2 h3)

def Preds (ops : Array Oper) (L : Array Bool) (i : Nat) : Prop := ∀ o, ops[i]? = some o → ∀ e ∈ o.after.toList, Region.binds .any e = true → L.getD e.on false = true

theorem Preds.reach {L : Array Bool} {i k : Nat} (hp : Preds ops L i) (hc : Closed ops L) (h : Reach ops i k) : L.getD k false = true := by
  cases h with
  | one h1 h2 h3 h4 => rw [← h4]; exact hp _ h1 _ h2 h3
  | more h1 h2 h3 h5 => exact hc.reach h5 (hp _ h1 _ h2 h3)

theorem getD_def {L : Array Bool} {i : Nat} (h : i < L.size) (b : Bool) : L.getD i b = L[i] := by simp [Array.getD, h]

theorem ready_iff {L : Array Bool} (hs : L.size = ops.size) {i : Nat} : i ∈ Region.ready .any ops L ↔ i < ops.size ∧ L.getD i false = false ∧ Preds ops L i := by
  unfold Region.ready
  rw [List.mem_filter, List.mem_range]
  constructor
  · rintro ⟨h1, h2⟩
    simp only [Bool.and_eq_true, Bool.not_eq_true'] at h2
    refine ⟨h1, by rw [getD_def (by omega)]; rw [getD_def (by omega)] at h2; exact h2.1, ?_⟩
    intro o ho e he hb
    rw [ho] at h2
    have := h2.2
    simp only [Option.map_some, Option.getD_some, Array.all_eq_true_iff_forall_mem] at this
    have := this e (Array.mem_toList_iff.1 he)
    simpa [hb] using this
  · rintro ⟨h1, h2, h3⟩
    refine ⟨h1, ?_⟩
    simp only [Bool.and_eq_true, Bool.not_eq_true']
    refine ⟨by rw [getD_def (by omega)]; rw [getD_def (by omega)] at h2; exact h2, ?_⟩
    have ho : ops[i]? = some ops[i] := Array.getElem?_eq_getElem h1
    rw [ho]
    simp only [Option.map_some, Option.getD_some, Array.all_eq_true_iff_forall_mem]
    intro e he
    cases hb : Region.binds .any e with
    | false => simp
    | true => simpa using h3 _ ho e (Array.mem_toList_iff.2 he) hb

/-- What stands while some operations are listed. -/
structure Inv (calls : Nat → Option Callee) (nt : Nat) (ops : Array Oper) (e0 eF : Env) (ρ0 : Rho) (H0 : Heap) (w0 : World) (a0 : Act)
    (L : Array Bool) (pend rest : List AOper) (H : Heap) (ρ : Rho) (a : Act) (w : World) : Prop where
  size : L.size = ops.size
  rel : R ρ H w
  ext : Ext ρ0 H0 w0 ρ H w
  tm : nt ≤ a.tmps.size
  defers : a.defers = a0.defers
  new : ∀ t k o, ops[k]? = some o → o.dst = some t → L.getD k false = true → VRel ρ (eF.get t) (a.tmps.getD t undef)
  old : ∀ t, (∀ k o, ops[k]? = some o → o.dst = some t → L.getD k false = false) → VRel ρ (e0.get t) (a.tmps.getD t undef)
  closed : Closed ops L
  cover : ∀ k, k < ops.size → L.getD k false = false → (∃ x ∈ pend, x.idx = k) ∨ (∃ x ∈ rest, x.idx = k)
  unl : ∀ x ∈ rest, L.getD x.idx false = false
  nod : ((pend ++ rest).map AOper.idx).Nodup
  free : ∀ x ∈ pend, L.getD x.idx false = false → ∀ b, blkx calls eF x = some b → ρ b = none

variable {e0 eF : Env} {late : AOper → Nat → Bool} {ρ0 : Rho} {H0 : Heap} {w0 : World} {a0 : Act}

theorem getD_set {L : Array Bool} {i k : Nat} (hi : i < L.size) : (L.setIfInBounds i true).getD k false = if k = i then true else L.getD k false := by
  by_cases h : k = i
  · subst h; simp [Array.getD, hi]
  · simp only [Array.getD_eq_getD_getElem?]
    rw [Array.getElem?_setIfInBounds_ne (fun hh => h hh.symm), if_neg h]

/-- One operation more. -/
theorem Inv.step {L : Array Bool} {pend rest pend' rest' : List AOper} {H H' : Heap} {ρ ρ' : Rho} {a : Act} {w w' : World} {i : Nat} {o : Oper} {v' : Value}
    (h : Inv calls nt ops e0 eF ρ0 H0 w0 a0 L pend rest H ρ a w) (ho : ops[i]? = some o) (hp : Preds ops L i) (hd : dstOK nt o.dst = true)
    (hR : R ρ' H' w') (hx : Ext ρ0 H0 w0 ρ' H' w') (hle : ρ.le ρ') (hv : ∀ d, o.dst = some d → VRel ρ' (eF.get d) v')
    (hc : ∀ k, k < ops.size → k ≠ i → L.getD k false = false → (∃ x ∈ pend', x.idx = k) ∨ (∃ x ∈ rest', x.idx = k))
    (hu : ∀ x ∈ rest', x ∈ rest ∧ x.idx ≠ i) (hn : ((pend' ++ rest').map AOper.idx).Nodup)
    (hf : ∀ x ∈ pend', x.idx ≠ i → L.getD x.idx false = false → ∀ b, blkx calls eF x = some b → ρ' b = none) :
    Inv calls nt ops e0 eF ρ0 H0 w0 a0 (L.setIfInBounds i true) pend' rest' H' ρ' (a.put o.dst v') w' := by
  have hi : i < L.size := by rw [h.size]; exact (Array.getElem?_eq_some_iff.1 ho).1
  have hg := fun k => getD_set (k := k) hi
  refine ⟨by simp [h.size], hR, hx, by rw [put_size]; exact h.tm, by rw [put_defers]; exact h.defers, ?_, ?_, ?_, ?_, ?_, hn, ?_⟩
  · intro t k ok hk hdk hLk
    by_cases hdt : o.dst = some t
    · rw [hdt]
      have hlt : t < nt := by rw [hdt] at hd; simpa [dstOK] using hd
      rw [getD_put_same (Nat.lt_of_lt_of_le hlt h.tm)]
      exact hv t hdt
    · rw [getD_put_other hdt]
      have hki : k ≠ i := by
        intro hh; subst hh; rw [ho] at hk; cases hk; exact hdt hdk
      rw [hg, if_neg hki] at hLk
      exact (h.new t k ok hk hdk hLk).mono hle
  · intro t ht
    have hdt : o.dst ≠ some t := by
      intro hh
      have := ht i o ho hh
      rw [hg, if_pos rfl] at this; cases this
    rw [getD_put_other hdt]
    refine (h.old t ?_).mono hle
    intro k ok hk hdk
    have := ht k ok hk hdk
    rw [hg] at this
    split at this
    · cases this
    · exact this
  · intro k ok hk hLk e he hb
    rw [hg] at hLk ⊢
    split
    · rfl
    · split at hLk
      · rename_i hki; subst hki; exact hp ok hk e he hb
      · exact h.closed k ok hk hLk e he hb
  · intro k hk hLk
    rw [hg] at hLk
    split at hLk
    · cases hLk
    · rename_i hki; exact hc k hk hki hLk
  · intro x hx
    obtain ⟨h1, h2⟩ := hu x hx
    rw [hg, if_neg h2]; exact h.unl x h1
  · intro x hx hLx b hb
    rw [hg] at hLx
    split at hLx
    · cases hLx
    · rename_i hxi; exact hf x hx hxi hLx b hb

/-- What the check says of the slots that an operation reads. -/
def ReadsOK (ops : Array Oper) (late : AOper → Nat → Bool) (x : AOper) : Prop := ∀ t ∈ x.slots,
  (late x t = true ∧ ∃ (k : Nat) (o : Oper), ops[k]? = some o ∧ o.dst = some t ∧ (k = x.idx ∨ Reach ops k x.idx)) ∨
  (late x t = false ∧ ∀ (k : Nat) (o : Oper), ops[k]? = some o → o.dst = some t → Reach ops x.idx k)

/-- What an operation reads is there. -/
theorem Inv.env {L : Array Bool} {pend rest : List AOper} {H : Heap} {ρ : Rho} {a : Act} {w : World} (h : Inv calls nt ops e0 eF ρ0 H0 w0 a0 L pend rest H ρ a w) {x : AOper}
    (hdst : ∀ (i j : Nat) (o o' : Oper) (t : Nat), ops[i]? = some o → ops[j]? = some o' → o.dst = some t → o'.dst = some t → i = j)
    (hno : ∀ t, (∀ (k : Nat) (o : Oper), ops[k]? = some o → o.dst ≠ some t) → eF.get t = e0.get t)
    (hr : ReadsOK ops late x) (hp : Preds ops L x.idx) (hL : L.getD x.idx false = false) : EnvRel ρ (seen late e0 eF x) a := by
  intro t
  rw [seen_get]
  split
  · rename_i ht
    rcases hr t ht with ⟨hl, k, o, h1, h2, h3⟩ | ⟨hl, h1⟩
    · rw [if_pos hl]
      refine h.old t ?_
      intro k' o' hk' hd'
      have := hdst _ _ _ _ _ hk' h1 hd' h2
      subst this
      rcases h3 with h3 | h3
      · subst h3; exact hL
      · cases hLk : L.getD k' false with
        | false => rfl
        | true =>
          have := h.closed.reach h3 hLk
          rw [hL] at this; cases this
    · rw [if_neg (by rw [hl]; decide)]
      by_cases hex : ∃ (k : Nat) (o : Oper), ops[k]? = some o ∧ o.dst = some t
      · obtain ⟨k, o, hk, hd⟩ := hex
        exact h.new t k o hk hd (hp.reach h.closed (h1 k o hk hd))
      · have hnone : ∀ (k : Nat) (o : Oper), ops[k]? = some o → o.dst ≠ some t := fun k o hk hd => hex ⟨k, o, hk, hd⟩
        rw [hno t hnone]
        exact h.old t (fun k o hk hd => absurd hd (hnone k o hk))
  · trivial

theorem wpOp_off {e1 : Env} {Q : Exit → Act → World → Prop} {x : AOper} {o : Oper} {i : Nat} {a : Act} {w : World} {ρ : Rho} {K : Act → World → Prop} (hi : ops[i]? = some o) (ok : guardOK ops x.guard o.guard = true)
    (he : EnvRel ρ e1 a) (hg : guardSt e1 x.guard = some false) (h : K (a.put o.dst undef) w) : wpOp P ops Q i K a w := by
  unfold wpOp
  simp only [hi]
  have hw : Region.wanted o (yielded ops a.tmps) = false := by
    cases hgd : x.guard with
    | none => rw [hgd] at hg; cases hg
    | some tb =>
      obtain ⟨t, b⟩ := tb
      rw [hgd] at hg ok
      simp only [guardSt] at hg
      split at hg
      · rename_i g ht
        rw [wanted_bool ok he ht]
        exact Option.some.inj hg
      · rename_i ht
        exact wanted_off ok he ht
      · cases hg
  rw [hw, if_neg (by decide)]
  exact h

theorem wpOp_on {e1 : Env} {Q : Exit → Act → World → Prop} {x : AOper} {o : Oper} {i : Nat} {a : Act} {w : World} {ρ : Rho} {K : Act → World → Prop} (hi : ops[i]? = some o) (ok : guardOK ops x.guard o.guard = true)
    (he : EnvRel ρ e1 a) (hg : guardSt e1 x.guard = some true) (h : o.wp P a w K Q) : wpOp P ops Q i K a w := by
  unfold wpOp
  simp only [hi]
  have hw : Region.wanted o (yielded ops a.tmps) = true := by
    cases hgd : x.guard with
    | none => rw [hgd] at ok; exact wanted_none ok _
    | some tb =>
      obtain ⟨t, b⟩ := tb
      rw [hgd] at hg ok
      simp only [guardSt] at hg
      split at hg
      · rename_i g ht
        rw [wanted_bool ok he ht]
        exact Option.some.inj hg
      · cases hg
      · cases hg
  rw [hw, if_pos rfl]
  exact .inl h

theorem reach_lt (hback : ∀ i o, ops[i]? = some o → ∀ e ∈ o.after.toList, Region.binds .any e = true → e.on < i) {i k : Nat} (h : Reach ops i k) : k < i := by
  induction h with
  | one h1 h2 h3 h4 => rw [← h4]; exact hback _ _ h1 _ h2 h3
  | more h1 h2 h3 _ ih => exact Nat.lt_trans ih (hback _ _ h1 _ h2 h3)

theorem none_ready (hback : ∀ i o, ops[i]? = some o → ∀ e ∈ o.after.toList, Region.binds .any e = true → e.on < i) {L : Array Bool} (hs : L.size = ops.size) (h : Region.ready .any ops L = []) :
    ∀ k, k < ops.size → L.getD k false = true := by
  intro k
  induction k using Nat.strongRecOn with
  | ind k ih =>
    intro hk
    cases hL : L.getD k false with
    | true => rfl
    | false =>
      exfalso
      have : k ∈ Region.ready .any ops L := (ready_iff hs).2 ⟨hk, hL, fun o ho e he hb => ih e.on (hback k o ho e he hb) (Nat.lt_trans (hback k o ho e he hb) hk)⟩
      rw [h] at this; cases this

theorem sim (hCO : CallsOK P calls fids) {ms : List Nat} {HF : Heap} {Q : Exit → Act → World → Prop} {xs : List AOper}
    (hms : ∀ i k, Nat.testBit (ms.getD i 0) k = true → Reach ops i k)
    (hback : ∀ i o, ops[i]? = some o → ∀ e ∈ o.after.toList, Region.binds .any e = true → e.on < i)
    (hok : ∀ x ∈ xs, ∃ o, ops[x.idx]? = some o ∧ aoperOK P fids nt ops x o = true)
    (hr : ∀ x ∈ xs, ReadsOK ops late x)
    (hdst : ∀ (i j : Nat) (o o' : Oper) (t : Nat), ops[i]? = some o → ops[j]? = some o' → o.dst = some t → o'.dst = some t → i = j)
    (hno : ∀ t, (∀ (k : Nat) (o : Oper), ops[k]? = some o → o.dst ≠ some t) → eF.get t = e0.get t)
    (hdom : ∀ b pl, ρ0 b = some pl → b < H0.length)
    (hn : ∀ ρ a w, R ρ HF w → EnvRel ρ eF a → Ext ρ0 H0 w0 ρ HF w → nt ≤ a.tmps.size → a.defers = a0.defers → Q .normal a w) :
    ∀ (fuel : Nat) (L : Array Bool) (pend : List AOper) (its : List Item) (e : Env) (H : Heap) (ρ : Rho) (a : Act) (w : World),
      Head calls its → evI1 calls its e H = some (eF, HF) → laterOK late its = true → (∀ t ∈ itsDsts its, e.get t = e0.get t) → chk calls ms pend [] its = true → (∀ x ∈ pend, Fact calls (seen late e0 eF) eF H x) → Dis calls eF pend → (∀ x ∈ pend, ∀ b, blkx calls eF x = some b → H0.length ≤ b) → (∀ x ∈ pend ++ itsOps its, x ∈ xs) →
      Inv calls nt ops e0 eF ρ0 H0 w0 a0 L pend (itsOps its) H ρ a w → ((List.range ops.size).filter fun k => !L.getD k false).length ≤ fuel → wpAny P .any ops Q fuel L a w := by
  have allIn : ∀ {L : Array Bool} {pend rest : List AOper} {H : Heap} {ρ : Rho} {a : Act} {w : World}, Inv calls nt ops e0 eF ρ0 H0 w0 a0 L pend rest H ρ a w → (∀ k, k < ops.size → L.getD k false = true) → EnvRel ρ eF a := by
    intro L pend rest H ρ a w hI hall t
    by_cases hex : ∃ (k : Nat) (o : Oper), ops[k]? = some o ∧ o.dst = some t
    · obtain ⟨k, o, hk, hd⟩ := hex
      exact hI.new t k o hk hd (hall k (Array.getElem?_eq_some_iff.1 hk).1)
    · have hnone : ∀ (k : Nat) (o : Oper), ops[k]? = some o → o.dst ≠ some t := fun k o hk hd => hex ⟨k, o, hk, hd⟩
      rw [hno t hnone]
      exact hI.old t (fun k o hk hd => absurd hd (hnone k o hk))
  intro fuel
  induction fuel with
  | zero =>
    intro L pend its e H ρ a w hh hev hl hz hc hf hd hbl hx hI hfu
    have hall : ∀ k, k < ops.size → L.getD k false = true := by
      intro k hk
      cases hL : L.getD k false with
      | true => rfl
      | false =>
        have : k ∈ (List.range ops.size).filter fun k => !L.getD k false := List.mem_filter.2 ⟨List.mem_range.2 hk, by rw [hL]; rfl⟩
        rw [List.eq_nil_of_length_eq_zero (Nat.le_zero.1 hfu)] at this
        cases this
    have hits : its = [] := by
      rcases hh with rfl | ⟨x, r, rfl, _⟩
      · rfl
      · have h1 := hI.unl x (by simp [itsOps])
        obtain ⟨o, ho, _⟩ := hok x (hx x (by simp [itsOps]))
        rw [hall _ (Array.getElem?_eq_some_iff.1 ho).1] at h1; cases h1
    subst hits
    cases hev
    refine ⟨?_, hn ρ a w hI.rel (allIn hI hall) hI.ext hI.tm hI.defers⟩
    · cases hr : Region.ready .any ops L with
      | nil => rfl
      | cons i l =>
        have : i ∈ Region.ready .any ops L := by rw [hr]; simp
        obtain ⟨h1, h2, _⟩ := (ready_iff hI.size).1 this
        rw [hall i h1] at h2; cases h2
  | succ fuel ih =>
    intro L pend its e H ρ a w hh hev hl hz hc hf hd hbl hx hI hfu
    refine ⟨?_, ?_⟩
    · intro hr0
      have hall := none_ready hback hI.size hr0
      have hits : its = [] := by
        rcases hh with rfl | ⟨x, r, rfl, _⟩
        · rfl
        · have h1 := hI.unl x (by simp [itsOps])
          obtain ⟨o, ho, _⟩ := hok x (hx x (by simp [itsOps]))
          rw [hall _ (Array.getElem?_eq_some_iff.1 ho).1] at h1; cases h1
      subst hits
      cases hev
      exact hn ρ a w hI.rel (allIn hI hall) hI.ext hI.tm hI.defers
    · intro i hi
      obtain ⟨hi1, hi2, hp⟩ := (ready_iff hI.size).1 hi
      have hLs : i < L.size := by rw [hI.size]; exact hi1
      have hfuel : ((List.range ops.size).filter fun k => !(L.setIfInBounds i true).getD k false).length ≤ fuel := by
        have h1 : ((List.range ops.size).filter fun k => !(L.setIfInBounds i true).getD k false) = ((List.range ops.size).filter fun k => !L.getD k false).filter fun k => !decide (k = i) := by
          rw [List.filter_filter]
          apply List.filter_congr
          intro k _
          rw [getD_set hLs]
          by_cases hki : k = i <;> simp [hki]
        have h2 : (((List.range ops.size).filter fun k => !L.getD k false).filter fun k => !decide (k = i)).length < ((List.range ops.size).filter fun k => !L.getD k false).length := by
          refine List.length_filter_lt_length_iff_exists.2 ⟨i, List.mem_filter.2 ⟨List.mem_range.2 hi1, by rw [hi2]; rfl⟩, by simp⟩
        rw [h1]; omega
      rcases hI.cover i hi1 hi2 with ⟨x, hxp, hxi⟩ | ⟨x, hxr, hxi⟩
      · -- an operation that waits
        subst hxi
        have hxx : x ∈ xs := hx x (by simp [hxp])
        obtain ⟨o, ho, ok⟩ := hok x hxx
        simp only [aoperOK, Bool.and_eq_true, decide_eq_true_eq] at ok
        obtain ⟨⟨⟨o1, o2⟩, o3⟩, o4⟩ := ok
        have he := hI.env hdst hno (hr x hxx) hp hi2
        obtain ⟨hk0, hfx⟩ := hf x hxp
        have hdo : dstOK nt o.dst = true := by rw [← o1]; exact o2
        have hcov : ∀ k, k < ops.size → k ≠ x.idx → L.getD k false = false → (∃ y ∈ pend, y.idx = k) ∨ (∃ y ∈ itsOps its, y.idx = k) := fun k hk _ hLk => hI.cover k hk hLk
        have hun : ∀ y ∈ itsOps its, y ∈ itsOps its ∧ y.idx ≠ x.idx := by
          intro y hy
          refine ⟨hy, fun hh => ?_⟩
          have := hI.nod
          rw [List.map_append, List.nodup_append] at this
          exact this.2.2 x.idx (List.mem_map.2 ⟨x, hxp, rfl⟩) y.idx (List.mem_map.2 ⟨y, hy, rfl⟩) hh.symm
        -- the state afterwards, the heap being the same
        have next : ∀ {ρ' : Rho} {w' : World} {v' : Value}, R ρ' H w' → Ext ρ0 H0 w0 ρ' H w' → ρ.le ρ' → (∀ d, x.dst = some d → VRel ρ' (eF.get d) v') →
            (∀ y ∈ pend, y.idx ≠ x.idx → L.getD y.idx false = false → ∀ b, blkx calls eF y = some b → ρ' b = none) → wpAny P .any ops Q fuel (L.setIfInBounds x.idx true) (a.put o.dst v') w' := by
          intro ρ' w' v' hR hX hle hv hfree
          exact ih _ pend its e H ρ' _ w' hh hev hl hz hc hf hd hbl hx (hI.step ho hp hdo hR hX hle (by rw [← o1]; exact hv) hcov hun hI.nod hfree) hfuel
        rcases hfx with ⟨hg, hoff⟩ | ⟨hg, hon⟩
        · refine wpOp_off ho o3 he hg ?_
          exact next hI.rel hI.ext (Rho.le_refl _) (fun d hdd => by rw [hoff d hdd]; rfl) (fun y hy _ hL b hb => hI.free y hy hL b hb)
        · refine wpOp_on ho o3 he hg ?_
          rcases hon with ⟨ha, v, h1, h2⟩ | ⟨ha, cs, d, G, h1, h2, h3, h4⟩
          · refine evOp_goes hCO hI.rel he o4 h1 _ _ ?_
            intro u u' H' ρ' w' hk hv hR' hX
            cases hk
            refine next hR' (hI.ext.trans hX hdom) hX.le (fun d hdd => by rw [h2 d hdd]; exact hv) ?_
            · intro y hy _ hL b hb
              cases hρ : ρ' b with
              | none => rfl
              | some pl =>
                have := (hX.new b pl hρ (hI.free y hy hL b hb)).1
                have := (hf y hy).blk hb
                omega
          · obtain ⟨vs, el, v', g1, g2, g3⟩ := alloc_spec (P := P) he ha o4 h2 w
            have hbx : blkx calls eF x = some G.length := by unfold blkx; rw [if_pos ha, h1]; exact h4
            have hfree : ρ G.length = none := hI.free x hxp hi2 _ hbx
            refine wp_value g1 (next (hI.rel.enter h3 hfree g2) (hI.ext.enter (hbl x hxp _ hbx) hfree) (Rho.le_set _ hfree) ?_ ?_)
            · intro d' hd'
              rw [h1] at hd'
              cases hd'
              exact g3 _ (Rho.set_same _ _ _)
            · intro y hy hne hL b hb
              have : b ≠ G.length := by
                intro hbG
                subst hbG
                exact hne (hd y hy x hxp _ hb hbx)
              rw [Rho.set_other _ _ this]
              exact hI.free y hy hL b hb
      · -- the next effect
        rcases hh with rfl | ⟨h, r, rfl, hE⟩
        · cases hxr
        · simp only [chk, hE, decide_true, cond_true, Bool.and_eq_true] at hc
          obtain ⟨⟨_, hc1⟩, hc2⟩ := hc
          have hxh : x = h := by
            rcases List.mem_cons.1 (show x ∈ h :: itsOps r from hxr) with h' | h'
            · exact h'
            · exfalso
              have h1 := List.all_eq_true.1 hc1 x h'
              have h2 := hp.reach hI.closed (by rw [← hxi]; exact hms _ _ h1)
              rw [hI.unl h (by simp [itsOps])] at h2; cases h2
          subst hxh
          subst hxi
          have hxx : x ∈ xs := hx x (by simp [itsOps])
          obtain ⟨o, ho, ok⟩ := hok x hxx
          simp only [aoperOK, Bool.and_eq_true, decide_eq_true_eq] at ok
          obtain ⟨⟨⟨o1, o2⟩, o3⟩, o4⟩ := ok
          have he := hI.env hdst hno (hr x hxx) hp hi2
          have hdo : dstOK nt o.dst = true := by rw [← o1]; exact o2
          have hl0 := hl
          simp only [laterOK, Bool.and_eq_true] at hl
          obtain ⟨⟨l1, l2⟩, l3⟩ := hl
          have hag := its_agree hev
          have hs : ∀ t ∈ x.slots, (seen late e0 eF x).get t = e.get t := by
            intro t ht
            rw [seen_get, if_pos ht]
            have hl1 := eq_of_beq (List.all_eq_true.1 l1 t ht)
            split
            · rename_i hlt
              rw [hlt] at hl1
              exact (hz t ((memB_iff _ _).1 hl1.symm)).symm
            · rename_i hlt
              refine hag t (fun hh => hlt ?_)
              rw [hl1]
              exact (memB_iff _ _).2 hh
          have hz' : ∀ {e1 : Env} {v : V}, (∀ t, Env.get e1 t = e.get t) → ∀ t ∈ itsDsts r, (put e1 x.dst v).get t = e0.get t := by
            intro e1 v h t ht
            have hne : x.dst ≠ some t := by
              intro hh
              rw [hh] at l2
              simp only [Bool.not_eq_true'] at l2
              rw [(memB_iff _ _).2 ht] at l2; cases l2
            rw [put_get_other hne, h]
            exact hz t (by simp only [itsDsts, List.mem_append]; exact .inr ht)
          have hds : ∀ {e1 : Env} {H' : Heap} {v : V}, evI1 calls r (put e1 x.dst v) H' = some (eF, HF) → ∀ d, x.dst = some d → eF.get d = v := by
            intro e1 H' v h d hdd
            rw [hdd] at l2 h
            rw [its_agree h d (fun hh => by simp only [Bool.not_eq_true'] at l2; rw [(memB_iff _ _).2 hh] at l2; cases l2), put_get_eq]
          have hgu : guardSt (seen late e0 eF x) x.guard = guardSt e x.guard := guardSt_congr fun t ht => hs t (guard_slot ht)
          have hev1 : ∀ {e1 : Env} {G : Heap}, (∀ t, Env.get e1 t = e.get t) → ev1 calls x.op (seen late e0 eF x) G = ev1 calls x.op e1 G := by
            intro e1 G h
            exact evOp_congr (fun t ht => by rw [h, hs t (op_slot ht)]) _ _
          let keep := pend.filter fun y => !Nat.testBit (ms.getD x.idx 0) y.idx
          have hkeep : ∀ y ∈ keep, y ∈ pend := fun y hy => (List.mem_filter.1 hy).1
          -- on to the next effect
          have next : ∀ {ρ' : Rho} {w' : World} {v' : Value} {e1 : Env} {v : V} {H' : Heap}, evI1 calls r (put e1 x.dst v) H' = some (eF, HF) → (∀ t ∈ itsDsts r, (put e1 x.dst v).get t = e0.get t) → R ρ' H' w' → Ext ρ0 H0 w0 ρ' H' w' → ρ.le ρ' → H.length ≤ H'.length → VRel ρ' v v' →
              (∀ y ∈ pend, L.getD y.idx false = false → ∀ b, blkx calls eF y = some b → ρ' b = none) → wpAny P .any ops Q fuel (L.setIfInBounds x.idx true) (a.put o.dst v') w' := by
            intro ρ' w' v' e1 v H' hev' hz1 hR hX hle hlen hv hfree
            obtain ⟨segs, its2, e2, bs, g1, g2, g0, g3, g4, g5, g6, g7, g8, g9⟩ := advance r keep _ _ H' hev' l3 hz1 hc2
              (fun y hy hny => by
                have hP : y.op.kl calls = .P := by
                  cases hkk : decide (y.op.kl calls = .P) with
                  | true => exact of_decide_eq_true hkk
                  | false => exact absurd (List.mem_filter.2 ⟨hy, by rw [hkk]; rfl⟩) hny
                exact (hf y (hkeep y hy)).pure hP H')
              (fun y hy => ⟨H, hf y (hkeep y (List.mem_filter.1 hy).1)⟩)
              (fun y hy b hb => Nat.lt_of_lt_of_le ((hf y (hkeep y hy)).blk hb) hlen)
              (fun y hy z hz b h1 h2 => hd y (hkeep y hy) z (hkeep z hz) b h1 h2)
            have hsub : (keep ++ segs ++ itsOps its2).Sublist (pend ++ itsOps (.op x :: r)) := by
              simp only [itsOps]
              rw [g9, List.append_assoc]
              exact List.Sublist.append List.filter_sublist (List.sublist_cons_self _ _)
            refine ih _ (keep ++ segs) its2 e2 (H' ++ bs) ρ' _ w' g4 g1 g2 g0 g3 g6 g7 (fun y hy b hb => ?_) (fun y hy => hx y (hsub.subset hy)) ?_ hfuel
            · rcases List.mem_append.1 hy with hy | hy
              · exact hbl y (hkeep y hy) b hb
              · exact Nat.le_trans hX.len (g8 y hy b hb)
            refine hI.step ho hp hdo (hR.grow g5) (hX.grow bs) hle (by rw [← o1]; intro d hdd; rw [hds hev' d hdd]; exact hv) ?_ ?_ ?_ ?_
            · intro k hk hki hLk
              rcases hI.cover k hk hLk with ⟨y, hy, hyk⟩ | ⟨y, hy, hyk⟩
              · left
                refine ⟨y, List.mem_append_left _ (List.mem_filter.2 ⟨hy, ?_⟩), hyk⟩
                cases htb : Nat.testBit (ms.getD x.idx 0) y.idx with
                | false => rfl
                | true =>
                  have := hp.reach hI.closed (hms _ _ htb)
                  rw [hyk, hLk] at this; cases this
              · rcases List.mem_cons.1 (show y ∈ x :: itsOps r from hy) with h' | h'
                · subst h'; exact absurd hyk.symm hki
                · rw [g9] at h'
                  rcases List.mem_append.1 h' with h' | h'
                  · exact .inl ⟨y, List.mem_append_right _ h', hyk⟩
                  · exact .inr ⟨y, h', hyk⟩
            · intro y hy
              have hyr : y ∈ itsOps r := by rw [g9]; exact List.mem_append_right _ hy
              refine ⟨List.mem_cons_of_mem _ hyr, fun hh => ?_⟩
              have := reach_lt hback (hms _ _ (List.all_eq_true.1 hc1 y hyr))
              omega
            · exact (hsub.map AOper.idx).nodup hI.nod
            · intro y hy hne hL b hb
              rcases List.mem_append.1 hy with hy | hy
              · exact hfree y (hkeep y hy) hL b hb
              · cases hρ : ρ' b with
                | none => rfl
                | some pl =>
                  have h1 := hR.dom b pl hρ
                  have h2 := g8 y hy b hb
                  omega
          rcases op_inv hev with ⟨hg, e1, v, H', h1, h2, h3⟩ | ⟨hg, e1, h1, h3⟩
          · rw [← hev1 h1] at h2
            refine wpOp_on ho o3 he (hgu.trans hg) ?_
            refine evOp_goes hCO hI.rel he o4 h2 _ _ ?_
            intro u u' H'' ρ' w' hk hv hR' hX
            cases hk
            refine next h3 (hz' h1) hR' (hI.ext.trans hX hdom) hX.le hX.len hv ?_
            · intro y hy hL b hb
              cases hρ : ρ' b with
              | none => rfl
              | some pl =>
                have := (hX.new b pl hρ (hI.free y hy hL b hb)).1
                have := (hf y hy).blk hb
                omega
          · refine wpOp_off ho o3 he (hgu.trans hg) ?_
            exact next h3 (hz' h1) hI.rel hI.ext (Rho.le_refl _) (Nat.le_refl _) rfl (fun y hy hL b hb => hI.free y hy hL b hb)

/-- Regions whose order is drawn. -/
theorem draw_sound (hCO : CallsOK P calls fids) (its : List Item) (ops : Array Oper) (ok : drawOK P calls fids nt its ops = true) : RegSound P calls nt its ops := by
  intro R0 k r ρ e H a w Q id hR he hs hev hn
  simp only [drawOK, Bool.and_eq_true] at ok
  obtain ⟨⟨⟨⟨⟨⟨⟨⟨c1, c2⟩, c3⟩, c4⟩, c5⟩, c6⟩, c7⟩, c8⟩, c9⟩ := ok
  rw [evIts_evI1] at hev
  obtain ⟨p, h1, h2⟩ := Option.bind_some_inv hev
  obtain ⟨eF, HF⟩ := p
  have hms := masks_sound (ops := ops) ops.toList [] (by simp) (by intro i k h; simp at h)
  have hback : ∀ i o, ops[i]? = some o → ∀ e ∈ o.after.toList, Region.binds .any e = true → e.on < i := by
    intro i o ho e he hb
    have := List.all_eq_true.1 (allFrom_ops c2 ho) e he
    simpa [hb] using this
  have hok : ∀ x ∈ itsOps its, ∃ o, ops[x.idx]? = some o ∧ aoperOK P fids nt ops x o = true := by
    intro x hx
    have := List.all_eq_true.1 c3 x hx
    split at this
    · rename_i o ho; exact ⟨o, ho, this⟩
    · cases this
  have hr : ∀ x ∈ itsOps its, ReadsOK ops (lateB ops.toList (masks ops.toList [])) x := by
    intro x hx t ht
    cases hl : lateB ops.toList (masks ops.toList []) x t with
    | true =>
      left
      obtain ⟨k, o, h1, h2⟩ := anyFrom_spec hl
      rw [Nat.zero_add] at h2
      simp only [Bool.and_eq_true, decide_eq_true_eq, Bool.or_eq_true] at h2
      refine ⟨rfl, k, o, by rw [← Array.getElem?_toList]; exact h1, h2.1, ?_⟩
      rcases h2.2 with h3 | h3
      · exact .inl (Nat.eq_of_beq_eq_true h3)
      · exact .inr (hms _ _ h3)
    | false =>
      right
      refine ⟨rfl, fun k o ho hd => ?_⟩
      have := List.all_eq_true.1 (List.all_eq_true.1 c4 x hx) t ht
      rw [hl, Bool.false_or] at this
      have := allFrom_ops this ho
      simp only [hd, decide_true, Bool.not_true, Bool.false_or] at this
      exact hms _ _ this
  have hdst : ∀ (i j : Nat) (o o' : Oper) (t : Nat), ops[i]? = some o → ops[j]? = some o' → o.dst = some t → o'.dst = some t → i = j := by
    intro i j o o' t h1 h2 h3 h4
    exact dstsOK_spec c5 i j o o' t (by rw [Array.getElem?_toList]; exact h1) (by rw [Array.getElem?_toList]; exact h2) h3 h4
  have hwr : ∀ t ∈ itsDsts its, ∃ (k : Nat) (o : Oper), ops[k]? = some o ∧ o.dst = some t := by
    intro t hh
    have : ∃ x ∈ itsOps its, x.dst = some t := by
      clear h1 c8 c9 c3 c4 c6 c7 hok hr hev hn
      induction its with
      | nil => cases hh
      | cons i its ih =>
        simp only [itsDsts, List.mem_append] at hh
        cases i with
        | op x =>
          rcases hh with hh | hh
          · refine ⟨x, by simp [itsOps], ?_⟩
            simp only [Item.dsts] at hh
            split at hh
            · rename_i d hd; rw [List.mem_singleton.1 hh]; exact hd
            · cases hh
          · obtain ⟨y, hy1, hy2⟩ := ih hh
            exact ⟨y, List.mem_cons_of_mem _ hy1, hy2⟩
        | again x =>
          rcases hh with hh | hh
          · simp [Item.dsts] at hh
          · exact ih hh
        | still x =>
          rcases hh with hh | hh
          · simp [Item.dsts] at hh
          · exact ih hh
    obtain ⟨x, hx, hxd⟩ := this
    obtain ⟨o, ho, hoo⟩ := hok x hx
    simp only [aoperOK, Bool.and_eq_true, decide_eq_true_eq] at hoo
    exact ⟨x.idx, o, ho, by rw [← hoo.1.1.1]; exact hxd⟩
  have hno : ∀ t, (∀ (k : Nat) (o : Oper), ops[k]? = some o → o.dst ≠ some t) → eF.get t = e.get t := fun t ht => its_agree h1 t (fun hh => by
    obtain ⟨k, o, ho, hd⟩ := hwr t hh
    exact ht k o ho hd)
  refine wp_region_any c1 ?_
  have hR' : R ρ H { w with drawn := w.drawn + 1 } := hR.world fun _ _ => rfl
  have hX' : Ext ρ H w ρ H { w with drawn := w.drawn + 1 } := ⟨Rho.le_refl _, Nat.le_refl _, fun b pl h h' => by simp [h] at h', fun _ _ h => h, Nat.le_refl _, rfl, rfl, rfl, fun _ _ _ => rfl⟩
  obtain ⟨segs, its2, e2, bs, g1, g2, g0, g3, g4, g5, g6, g7, g8, g9⟩ := advance its [] [] e H h1 c8 (fun _ _ => rfl) c9 (by simp) (by simp) (by simp) (by intro x hx; simp at hx)
  simp only [List.nil_append] at g3 g6 g7
  refine sim (P := P) (nt := nt) (ρ0 := ρ) (H0 := H) (w0 := w) (a0 := a) hCO hms hback hok hr hdst hno hR.dom (fun ρ' a' w' q1 q2 q3 q4 q5 => hn eF HF ρ' a' w' h2 ⟨q1, q2, q3, q4, q5, fun t ht => its_agree h1 t ht⟩)
    ops.size (Array.replicate ops.size false) segs its2 e2 (H ++ bs) ρ a _ g4 g1 g2 g0 g3 g6 g7 g8 (fun x hx => by rw [g9]; exact hx) ?_ ?_
  · have hL : ∀ k, (Array.replicate ops.size false).getD k false = false := by
      intro k
      by_cases hk : k < ops.size <;> simp [Array.getD, hk]
    refine ⟨by simp, hR'.grow g5, hX'.grow bs, hs, rfl, ?_, ?_, ?_, ?_, ?_, ?_, ?_⟩
    · intro t k o _ _ hLk; rw [hL] at hLk; cases hLk
    · intro t _; exact he t
    · intro i o _ hLi; rw [hL] at hLi; cases hLi
    · intro k hk _
      have := (memB_iff _ _).1 (allFrom_ops (f := fun k _ => memB k ((itsOps its).map AOper.idx)) c7 (Array.getElem?_eq_getElem hk))
      obtain ⟨x, hx, hxk⟩ := List.mem_map.1 this
      rw [g9] at hx
      rcases List.mem_append.1 hx with hx | hx
      · exact .inl ⟨x, hx, hxk⟩
      · exact .inr ⟨x, hx, hxk⟩
    · intro x _; exact hL _
    · rw [← g9]; exact nodupB_spec c6
    · intro x hx _ b hb
      cases hρ : ρ b with
      | none => rfl
      | some pl =>
        have := hR.dom b pl hρ
        have := g8 x hx b hb
        omega
  · refine Nat.le_trans (List.length_filter_le _ _) ?_
    simp

end
end Ev
