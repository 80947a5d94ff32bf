/- Regions whose order is given; one operation of a region, with its guard. -/
import Derived.Test.YtnndecgjcgpmbaaEvOpH
import Derived.Orders
import Derived.LoopN
namespace Ev
open Go
section
variable {P : Program} {Q : Exit → Act → World → Prop} {a : Act} {w : World}
variable {R0 : Type} {k : Env → Heap → Option R0} {r : R0} {ρ : Rho} {H : Heap} {e : Env} {calls : Nat → Option Callee} {fids : Nat → Option FuncId}

theorem Env.get_cons (s : Nat) (v : V) (e : Env) (t : Nat) : Env.get ((s, v) :: e) t = if s = t then v else e.get t := by
  simp only [Env.get]
  by_cases h : s = t
  · subst h; simp
  · have : Nat.beq s t = false := by
      cases hb : Nat.beq s t with
      | false => rfl
      | true => exact absurd (Nat.eq_of_beq_eq_true hb) h
    rw [this, if_neg h]; rfl

theorem put_get_other {e : Env} {d : Option Nat} {v : V} {t : Nat} (h : d ≠ some t) : (put e d v).get t = e.get t := by
  cases d with
  | none => rfl
  | some s => rw [put, Env.get_cons, if_neg (fun hh => h (by rw [hh]))]

theorem EnvRel.mono {ρ ρ' : Rho} (h : ρ.le ρ') (he : EnvRel ρ e a) : EnvRel ρ' e a := fun t => (he t).mono h

theorem getD_put_same {d : Nat} {v : Value} (h : d < a.tmps.size) : (a.put (some d) v).tmps.getD d undef = v := by
  simp [Act.put, Array.getD, h]
theorem getD_put_other {d : Option Nat} {v : Value} {t : Nat} (h : d ≠ some t) : (a.put d v).tmps.getD t undef = a.tmps.getD t undef := by
  cases d with
  | none => rfl
  | some d =>
    have hne : d ≠ t := fun hh => h (by rw [hh])
    simp only [Act.put, Array.getD_eq_getD_getElem?]
    rw [Array.getElem?_setIfInBounds_ne hne]

def dstOK (nt : Nat) : Option Nat → Bool
  | none => true
  | some d => Nat.blt d nt

theorem EnvRel.put {v : V} {v' : Value} {d : Option Nat} {nt : Nat} (he : EnvRel ρ e a) (hv : VRel ρ v v') (hd : dstOK nt d = true) (hs : nt ≤ a.tmps.size) : EnvRel ρ (put e d v) (a.put d v') := by
  intro t
  by_cases h : d = some t
  · subst h
    have hlt : t < nt := by simpa [dstOK] using hd
    rw [getD_put_same (by omega)]
    rw [Ev.put, Env.get_cons, if_pos rfl]; exact hv
  · rw [put_get_other h, getD_put_other h]; exact he t

theorem put_size {d : Option Nat} {v : Value} : (a.put d v).tmps.size = a.tmps.size := by cases d <;> simp [Act.put]
theorem put_defers {d : Option Nat} {v : Value} : (a.put d v).defers = a.defers := by cases d <;> rfl

theorem EnvRel.narrow {t : Nat} {v : V} (he : EnvRel ρ e a) (h : e.get t = v) : EnvRel ρ ((t, v) :: e) a := by
  intro s
  rw [Env.get_cons]
  split
  · rename_i hh; subst hh; rw [← h]; exact he t
  · exact he s

def guardOK (ops : Array Oper) : Option (Nat × Bool) → Option (Nat × Bool) → Bool
  | none, none => true
  | some (t, b), some (g, b') => decide (b = b') && decide ((ops[g]?).bind (·.dst) = some t)
  | _, _ => false

def aoperOK (P : Program) (fids : Nat → Option FuncId) (nt : Nat) (ops : Array Oper) (x : AOper) (o : Oper) : Bool :=
  decide (x.dst = o.dst) && dstOK nt x.dst && guardOK ops x.guard o.guard && opOK P fids x.op o.op

theorem wanted_none {ops : Array Oper} {o : Oper} (h : guardOK ops none o.guard = true) (tm : Array Value) : Region.wanted o (yielded ops tm) = true := by
  cases hg : o.guard with
  | none => simp [Region.wanted, hg]
  | some g => rw [hg] at h; cases h
theorem wanted_bool {ops : Array Oper} {o : Oper} {t : Nat} {b g : Bool} (h : guardOK ops (some (t, b)) o.guard = true) (he : EnvRel ρ e a) (hv : e.get t = .w (.one (.bool g))) :
    Region.wanted o (yielded ops a.tmps) = (g == b) := by
  cases hg : o.guard with
  | none => rw [hg] at h; cases h
  | some gw =>
    obtain ⟨j, want⟩ := gw
    rw [hg] at h
    simp only [guardOK, Bool.and_eq_true, decide_eq_true_eq] at h
    obtain ⟨rfl, h2⟩ := h
    have := he t
    rw [hv] at this
    have this : a.tmps.getD t undef = .bool g := this
    have ht : a.tmps[t]? = some (.bool g) := by
      rw [Array.getD_eq_getD_getElem?] at this
      cases hx : a.tmps[t]? with
      | none => rw [hx] at this; cases this
      | some y => rw [hx] at this; rw [← this]; rfl
    simp only [Region.wanted, hg, yielded, h2, Option.bind_some, ht]
    cases g <;> cases b <;> rfl
theorem wanted_off {ops : Array Oper} {o : Oper} {t : Nat} {b : Bool} (h : guardOK ops (some (t, b)) o.guard = true) (he : EnvRel ρ e a) (hv : e.get t = .off) :
    Region.wanted o (yielded ops a.tmps) = false := by
  cases hg : o.guard with
  | none => rw [hg] at h; cases h
  | some gw =>
    obtain ⟨j, want⟩ := gw
    rw [hg] at h
    simp only [guardOK, Bool.and_eq_true, decide_eq_true_eq] at h
    obtain ⟨rfl, h2⟩ := h
    have := he t
    rw [hv] at this
    have this : a.tmps.getD t undef = undef := this
    simp only [Region.wanted, hg, yielded, h2, Option.bind_some]
    rw [Array.getD_eq_getD_getElem?] at this
    cases hx : a.tmps[t]? with
    | none => rfl
    | some y =>
      rw [hx] at this
      have this : y = undef := this
      subst this; rfl

/-- What is kept from one state to a later one. -/
structure Step (nt : Nat) (ds : List Nat) (ρ : Rho) (e : Env) (H : Heap) (a : Act) (w : World) (ρ' : Rho) (e' : Env) (H' : Heap) (a' : Act) (w' : World) : Prop where
  rel : R ρ' H' w'
  env : EnvRel ρ' e' a'
  ext : Ext ρ H w ρ' H' w'
  size : nt ≤ a'.tmps.size
  defers : a'.defers = a.defers
  agree : ∀ t, t ∉ ds → e'.get t = e.get t

theorem Step.trans {nt : Nat} {ds ds' ds'' : List Nat} {ρ ρ' ρ'' : Rho} {e e' e'' : Env} {H H' H'' : Heap} {a a' a'' : Act} {w w' w'' : World} (hR : R ρ H w)
    (h : Step nt ds ρ e H a w ρ' e' H' a' w') (k : Step nt ds' ρ' e' H' a' w' ρ'' e'' H'' a'' w'') (hd : ∀ t, t ∈ ds ∨ t ∈ ds' → t ∈ ds'') : Step nt ds'' ρ e H a w ρ'' e'' H'' a'' w'' :=
  ⟨k.rel, k.env, h.ext.trans k.ext hR.dom, k.size, k.defers.trans h.defers, fun t ht => by rw [k.agree t (fun hh => ht (hd t (.inr hh))), h.agree t (fun hh => ht (hd t (.inl hh)))]⟩

theorem Step.refl {nt : Nat} {ds : List Nat} (hR : R ρ H w) (he : EnvRel ρ e a) (hs : nt ≤ a.tmps.size) : Step nt ds ρ e H a w ρ e H a w :=
  ⟨hR, he, Ext.refl _ _ _, hs, rfl, fun _ _ => rfl⟩

/-- One operation with its guard. -/
theorem op_goes (hCO : CallsOK P calls fids) {nt : Nat} {ops : Array Oper} {i : Nat} {o : Oper} {x : AOper} {its : List Item} (hi : ops[i]? = some o) (ok : aoperOK P fids nt ops x o = true)
    (hR : R ρ H w) (he : EnvRel ρ e a) (hs : nt ≤ a.tmps.size) (hev : evIts calls (.op x :: its) e H k = some r) {K : Act → World → Prop}
    (hn : ∀ e' H' ρ' a' w', evIts calls its e' H' k = some r → Step nt (Item.op x).dsts ρ e H a w ρ' e' H' a' w' → K a' w') : wpOp P ops Q i K a w := by
  simp only [aoperOK, Bool.and_eq_true, decide_eq_true_eq] at ok
  obtain ⟨⟨⟨o1, o2⟩, o3⟩, o4⟩ := ok
  have hds : ∀ t, t ∉ (Item.op x).dsts → x.dst ≠ some t := by
    intro t ht hh
    simp only [Item.dsts, hh] at ht
    exact ht (by simp)
  -- carried out
  have on : ∀ e1 : Env, EnvRel ρ e1 a → (∀ t, e1.get t = e.get t) → evOp calls x.op e1 H (fun v H' => evIts calls its (put e1 x.dst v) H' k) = some r → o.wp P a w K Q := by
    intro e1 he1 hg hev1
    refine evOp_goes hCO hR he1 o4 hev1 K Q ?_
    intro v v' H' ρ' w' hk hv hR' hx
    refine hn _ _ _ _ _ hk ⟨hR', ?_, hx, by rw [put_size]; exact hs, put_defers, fun t ht => by rw [put_get_other (hds t ht), hg]⟩
    rw [← o1]
    exact (he1.mono hx.le).put hv o2 hs
  -- left out
  have off : ∀ e1 : Env, EnvRel ρ e1 a → (∀ t, e1.get t = e.get t) → evIts calls its (put e1 x.dst .off) H k = some r → K (a.put o.dst undef) w := by
    intro e1 he1 hg hev1
    refine hn _ _ _ _ _ hev1 ⟨hR, ?_, Ext.refl _ _ _, by rw [put_size]; exact hs, put_defers, fun t ht => by rw [put_get_other (hds t ht), hg]⟩
    rw [← o1]
    exact he1.put (v := .off) rfl o2 hs
  unfold wpOp
  simp only [hi]
  simp only [evIts] at hev
  split at hev
  · rename_i hg
    rw [hg] at o3
    rw [if_pos (wanted_none o3 _)]
    exact .inl (on e he (fun _ => rfl) hev)
  · rename_i t want hg
    rw [hg] at o3
    split at hev
    · rename_i g ht
      have hw := wanted_bool o3 he ht
      rw [hw]
      have hnar : ∀ s, Env.get ((t, .w (.one (.bool g))) :: e) s = e.get s := by
        intro s; rw [Env.get_cons]; split
        · rename_i hh; subst hh; exact ht.symm
        · rfl
      have hrel := he.narrow ht
      cases g <;> cases want <;> simp only [cond_true, cond_false] at hev
      · rw [if_pos (by decide)]; exact .inl (on _ hrel hnar hev)
      · rw [if_neg (by decide)]; exact off _ hrel hnar hev
      · rw [if_neg (by decide)]; exact off _ hrel hnar hev
      · rw [if_pos (by decide)]; exact .inl (on _ hrel hnar hev)
    · rename_i ht
      have hw := wanted_off o3 he ht
      rw [hw, if_neg (by decide)]
      exact off e he (fun _ => rfl) hev
    · cases hev

def seqOK (P : Program) (fids : Nat → Option FuncId) (nt : Nat) (ops : Array Oper) : List Item → List Oper → Bool
  | [], [] => true
  | .op x :: r, o :: s => aoperOK P fids nt ops x o && seqOK P fids nt ops r s
  | _, _ => false

theorem seq_goes (hCO : CallsOK P calls fids) {nt : Nat} {ops : Array Oper} : ∀ (its : List Item) (l : List Oper) (i : Nat) (ρ : Rho) (e : Env) (H : Heap) (a : Act) (w : World),
    ops.toList.drop i = l → seqOK P fids nt ops its l = true → R ρ H w → EnvRel ρ e a → nt ≤ a.tmps.size → evIts calls its e H k = some r →
    (∀ e' H' ρ' a' w', k e' H' = some r → Step nt (itsDsts its) ρ e H a w ρ' e' H' a' w' → Q .normal a' w') → wpOps P ops Q (List.range' i l.length) a w
  | [], [], i, ρ, e, H, a, w, _, _, hR, he, hs, hev, hn => by
    exact hn e H ρ a w hev (Step.refl hR he hs)
  | .op x :: its, o :: l, i, ρ, e, H, a, w, hl, ok, hR, he, hs, hev, hn => by
    simp only [seqOK, Bool.and_eq_true] at ok
    have hi : ops[i]? = some o := by
      rw [← Array.getElem?_toList, ← List.head?_drop, hl]; rfl
    rw [List.length_cons, List.range'_succ, wpOps_cons]
    refine op_goes hCO hi ok.1 hR he hs hev ?_
    intro e' H' ρ' a' w' hev' hst
    refine seq_goes hCO its l (i + 1) ρ' e' H' a' w' (by rw [← List.tail_drop, hl]; rfl) ok.2 hst.rel hst.env hst.size hev' ?_
    intro e'' H'' ρ'' a'' w'' hk hst'
    exact hn _ _ _ _ _ hk (hst.trans hR hst' (fun t ht => by simp only [itsDsts, List.mem_append]; exact ht))
  | [], _ :: _, _, _, _, _, _, _, _, ok, _, _, _, _, _ => by simp [seqOK] at ok
  | .op _ :: _, [], _, _, _, _, _, _, _, ok, _, _, _, _, _ => by simp [seqOK] at ok
  | .again _ :: _, _, _, _, _, _, _, _, _, ok, _, _, _, _, _ => by simp [seqOK] at ok
  | .still _ :: _, _, _, _, _, _, _, _, _, ok, _, _, _, _, _ => by simp [seqOK] at ok

end
end Ev
