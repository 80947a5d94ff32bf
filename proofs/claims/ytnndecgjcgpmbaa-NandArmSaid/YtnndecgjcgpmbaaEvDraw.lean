/- Regions of which the order is drawn. -/
import Derived.Test.YtnndecgjcgpmbaaEvKl
namespace Ev
open Go

/-! Which operations come before. -/
inductive Reach (ops : Array Oper) : Nat → Nat → Prop where
  | one {i k : Nat} {o : Oper} {e : Edge} : ops[i]? = some o → e ∈ o.after.toList → Region.binds .any e = true → e.on = k → Reach ops i k
  | more {i k : Nat} {o : Oper} {e : Edge} : ops[i]? = some o → e ∈ o.after.toList → Region.binds .any e = true → Reach ops e.on k → Reach ops i k

def mask1 (ms : List Nat) : List Edge → Nat
  | [] => 0
  | e :: r => bif Region.binds .any e then (2 ^ e.on ||| ms.getD e.on 0) ||| mask1 ms r else mask1 ms r
def masks : List Oper → List Nat → List Nat
  | [], ms => ms
  | o :: r, ms => masks r (ms ++ [mask1 ms o.after.toList])

theorem mask1_sound {ops : Array Oper} {ms : List Nat} (hms : ∀ i k, Nat.testBit (ms.getD i 0) k = true → Reach ops i k) : ∀ (es : List Edge) (k : Nat), Nat.testBit (mask1 ms es) k = true →
    ∃ e ∈ es, Region.binds .any e = true ∧ (e.on = k ∨ Reach ops e.on k)
  | [], k, h => by simp [mask1] at h
  | e :: r, k, h => by
    simp only [mask1] at h
    cases hb : Region.binds .any e with
    | true =>
      rw [hb, cond_true, Nat.testBit_or, Nat.testBit_or, Bool.or_eq_true, Bool.or_eq_true] at h
      rcases h with (h | h) | h
      · rw [Nat.testBit_two_pow] at h
        exact ⟨e, by simp, hb, .inl (of_decide_eq_true h)⟩
      · exact ⟨e, by simp, hb, .inr (hms _ _ h)⟩
      · obtain ⟨e', h1, h2⟩ := mask1_sound hms r k h
        exact ⟨e', List.mem_cons_of_mem _ h1, h2⟩
    | false =>
      rw [hb, cond_false] at h
      obtain ⟨e', h1, h2⟩ := mask1_sound hms r k h
      exact ⟨e', List.mem_cons_of_mem _ h1, h2⟩

theorem masks_sound {ops : Array Oper} : ∀ (l : List Oper) (ms : List Nat), ops.toList.drop ms.length = l → (∀ i k, Nat.testBit (ms.getD i 0) k = true → Reach ops i k) →
    ∀ i k, Nat.testBit ((masks l ms).getD i 0) k = true → Reach ops i k
  | [], ms, _, hms => hms
  | o :: r, ms, hl, hms => by
    have ho : ops[ms.length]? = some o := by rw [← Array.getElem?_toList, ← List.head?_drop, hl]; rfl
    refine masks_sound r (ms ++ [mask1 ms o.after.toList]) (by rw [List.length_append, List.length_singleton, ← List.tail_drop, hl]; rfl) ?_
    intro i k h
    rcases Nat.lt_trichotomy i ms.length with hi | hi | hi
    · rw [List.getD_eq_getElem?_getD, List.getElem?_append_left hi, ← List.getD_eq_getElem?_getD] at h
      exact hms i k h
    · subst hi
      rw [List.getD_eq_getElem?_getD, List.getElem?_append_right (Nat.le_refl _), Nat.sub_self] at h
      obtain ⟨e, h1, h2, h3⟩ := mask1_sound hms _ k h
      rcases h3 with h3 | h3
      · exact .one ho h1 h2 h3
      · exact .more ho h1 h2 h3
    · rw [List.getD_eq_getElem?_getD, List.getElem?_eq_none (by simp; omega)] at h
      simp at h

def allFrom (f : Nat → Oper → Bool) : Nat → List Oper → Bool
  | _, [] => true
  | i, o :: r => f i o && allFrom f (i + 1) r
theorem allFrom_spec {f : Nat → Oper → Bool} : ∀ {l : List Oper} {i : Nat}, allFrom f i l = true → ∀ k o, l[k]? = some o → f (i + k) o = true
  | [], _, _, k, o, h => by simp at h
  | x :: r, i, ok, k, o, h => by
    simp only [allFrom, Bool.and_eq_true] at ok
    cases k with
    | zero => simp at h; subst h; exact ok.1
    | succ k =>
      have := allFrom_spec ok.2 k o (by simpa using h)
      rwa [show i + 1 + k = i + (k + 1) by omega] at this
theorem allFrom_ops {f : Nat → Oper → Bool} {ops : Array Oper} (h : allFrom f 0 ops.toList = true) {k : Nat} {o : Oper} (hk : ops[k]? = some o) : f k o = true := by
  have := allFrom_spec h k o (by rw [Array.getElem?_toList]; exact hk)
  rwa [Nat.zero_add] at this

def dstsOK : List Oper → Bool
  | [] => true
  | o :: r => (match o.dst with
    | none => true
    | some d => r.all fun o' => !decide (o'.dst = some d)) && dstsOK r
theorem dstsOK_spec : ∀ {l : List Oper}, dstsOK l = true → ∀ (i j : Nat) (o o' : Oper) (t : Nat), l[i]? = some o → l[j]? = some o' → o.dst = some t → o'.dst = some t → i = j
  | [], _, i, j, o, o', t, h, _, _, _ => by simp at h
  | x :: r, ok, i, j, o, o', t, hi, hj, ht, ht' => by
    simp only [dstsOK, Bool.and_eq_true] at ok
    have no : ∀ (y : Oper), x.dst = some t → y ∈ r → y.dst = some t → False := by
      intro y h1 h2 h3
      rw [h1] at ok
      have := List.all_eq_true.1 ok.1 y h2
      simp [h3] at this
    cases i with
    | zero =>
      cases j with
      | zero => rfl
      | succ j =>
        simp at hi hj
        subst hi
        exact (no o' ht (List.mem_of_getElem? hj) ht').elim
    | succ i =>
      cases j with
      | zero =>
        simp at hi hj
        subst hj
        exact (no o ht' (List.mem_of_getElem? hi) ht).elim
      | succ j =>
        simp at hi hj
        rw [dstsOK_spec ok.2 i j o o' t hi hj ht ht']

/-! Items. -/
def Item.o : Item → AOper
  | .op x | .again x | .still x => x
def itsOps : List Item → List AOper
  | [] => []
  | .op x :: r => x :: itsOps r
  | _ :: r => itsOps r
def AOper.slots (x : AOper) : List Nat := (match x.guard with
  | some (t, _) => [t]
  | none => []) ++ x.op.slots
/-- Is a slot that the operation reads written by one that comes behind it (or by itself)? -/
def anyFrom (f : Nat → Oper → Bool) : Nat → List Oper → Bool
  | _, [] => false
  | i, o :: r => f i o || anyFrom f (i + 1) r
def lateB (ops : List Oper) (ms : List Nat) (x : AOper) (t : Nat) : Bool := anyFrom (fun k o => decide (o.dst = some t) && (Nat.beq k x.idx || Nat.testBit (ms.getD k 0) x.idx)) 0 ops
def laterOK (late : AOper → Nat → Bool) : List Item → Bool
  | [] => true
  | .op x :: r => (x.slots.all fun t => late x t == memB t ((Item.op x).dsts ++ itsDsts r)) && (match x.dst with
    | some d => !memB d (itsDsts r)
    | none => true) && laterOK late r
  | .again x :: r => (x.slots.all fun t => !late x t && !memB t (itsDsts r)) && (match x.dst with
    | some d => !memB d (itsDsts r)
    | none => true) && laterOK late r
  | .still x :: r => (x.slots.all fun t => !late x t && !memB t (itsDsts r)) && (match x.dst with
    | some d => !memB d (itsDsts r)
    | none => true) && laterOK late r

def chk (calls : Nat → Option Callee) (ms : List Nat) : List AOper → List AOper → List Item → Bool
  | _, need, [] => need.isEmpty
  | pend, need, .op x :: r => bif decide (x.op.kl calls = .E) then
      need.isEmpty && ((itsOps r).all fun y => Nat.testBit (ms.getD y.idx 0) x.idx) &&
        chk calls ms (pend.filter fun y => !Nat.testBit (ms.getD x.idx 0) y.idx) ((pend.filter fun y => !Nat.testBit (ms.getD x.idx 0) y.idx).filter fun y => !decide (y.op.kl calls = .P)) r
    else (!decide (x.op.kl calls = .A) || x.dst.isSome) && chk calls ms (pend ++ [x]) need r
  | pend, need, .again x :: r => decide (x.op.kl calls = .R) && chk calls ms pend (need.filter fun y => !decide (y = x)) r
  | pend, need, .still x :: r => decide (x.op.kl calls = .A) && chk calls ms pend (need.filter fun y => !decide (y = x)) r

def nodupB : List Nat → Bool
  | [] => true
  | n :: r => !memB n r && nodupB r
theorem nodupB_spec : ∀ {l : List Nat}, nodupB l = true → l.Nodup
  | [], _ => List.nodup_nil
  | n :: r, h => by
    simp only [nodupB, Bool.and_eq_true, Bool.not_eq_true'] at h
    exact List.nodup_cons.2 ⟨fun hm => (by rw [(memB_iff n r).2 hm] at h; cases h.1), nodupB_spec h.2⟩

def drawOK (P : Program) (calls : Nat → Option Callee) (fids : Nat → Option FuncId) (nt : Nat) (its : List Item) (ops : Array Oper) : Bool :=
  P.follows .mixedOrders &&
  (allFrom (fun i o => o.after.toList.all fun e => !Region.binds .any e || Nat.blt e.on i) 0 ops.toList) &&
  ((itsOps its).all fun x => match ops[x.idx]? with
    | some o => aoperOK P fids nt ops x o
    | none => false) &&
  ((itsOps its).all fun x => x.slots.all fun t => lateB ops.toList (masks ops.toList []) x t || allFrom (fun k o => !decide (o.dst = some t) || Nat.testBit ((masks ops.toList []).getD x.idx 0) k) 0 ops.toList) &&
  dstsOK ops.toList && nodupB ((itsOps its).map AOper.idx) && (allFrom (fun k _ => memB k ((itsOps its).map AOper.idx)) 0 ops.toList) &&
  laterOK (lateB ops.toList (masks ops.toList [])) its && chk calls (masks ops.toList []) [] [] its

def guardSt (e : Env) : Option (Nat × Bool) → Option Bool
  | none => some true
  | some (t, want) => match e.get t with
    | .w (.one (.bool g)) => some (g == want)
    | .off => some false
    | _ => none

def evI1 (calls : Nat → Option Callee) (its : List Item) (e : Env) (H : Heap) : Option (Env × Heap) := evIts calls its e H fun e H => some (e, H)

section
variable {calls : Nat → Option Callee} {e : Env} {H : Heap} {r : Env × Heap}

theorem narrow_get {t : Nat} {v : V} (h : e.get t = v) (s : Nat) : Env.get ((t, v) :: e) s = e.get s := by
  rw [Env.get_cons]; split
  · rename_i hh; subst hh; exact h.symm
  · rfl

theorem evIts_nat {R0 R1 : Type} (f : R0 → Option R1) : ∀ (its : List Item) (e : Env) (H : Heap) (k : Env → Heap → Option R0), (evIts calls its e H k).bind f = evIts calls its e H fun e H => (k e H).bind f
  | [], _, _, _ => rfl
  | .op x :: its, e, H, k => by
    simp only [evIts]
    split
    · rw [evOp_nat]; simp only [evIts_nat f its]
    · split
      · rename_i t want _ _ g _
        cases g <;> cases want <;> simp only [cond_true, cond_false, evOp_nat, evIts_nat f its]
      · exact evIts_nat f its _ _ _
      · rfl
  | .again x :: its, e, H, k => by
    simp only [evIts]
    rw [cond_nat, evIts_nat f its, evOp_nat]
    congr 1
    congr 1
    funext v H'
    split
    · exact evIts_nat f its _ _ _
    · rfl
  | .still x :: its, e, H, k => by
    simp only [evIts]
    rw [cond_nat, evIts_nat f its, init_nat]
    congr 1
    congr 1
    funext cs
    split
    · split
      · exact evIts_nat f its _ _ _
      · rfl
    · rw [Option.bind_assoc]
      congr 1
      funext a
      split
      · exact evIts_nat f its _ _ _
      · rfl
    · rfl

theorem evIts_evI1 {R0 : Type} (its : List Item) (k : Env → Heap → Option R0) : evIts calls its e H k = (evI1 calls its e H).bind fun p => k p.1 p.2 := by
  unfold evI1; rw [evIts_nat]; rfl

theorem op_inv {x : AOper} {its : List Item} (h : evI1 calls (.op x :: its) e H = some r) :
    (guardSt e x.guard = some true ∧ ∃ e1 v H', (∀ t, Env.get e1 t = e.get t) ∧ ev1 calls x.op e1 H = some (v, H') ∧ evI1 calls its (put e1 x.dst v) H' = some r) ∨
    (guardSt e x.guard = some false ∧ ∃ e1, (∀ t, Env.get e1 t = e.get t) ∧ evI1 calls its (put e1 x.dst .off) H = some r) := by
  have on : ∀ e1, (evOp calls x.op e1 H fun v H' => evIts calls its (put e1 x.dst v) H' fun e H => some (e, H)) = some r → ∃ v H', ev1 calls x.op e1 H = some (v, H') ∧ evI1 calls its (put e1 x.dst v) H' = some r := by
    intro e1 h
    rw [evOp_ev1] at h
    obtain ⟨p, h1, h2⟩ := Option.bind_some_inv h
    exact ⟨p.1, p.2, h1, h2⟩
  unfold evI1 at h
  simp only [evIts] at h
  split at h
  · rename_i hg
    obtain ⟨v, H', h1, h2⟩ := on e h
    exact .inl ⟨by rw [hg]; rfl, e, v, H', fun _ => rfl, h1, h2⟩
  · rename_i t want hg
    split at h
    · rename_i g ht
      have hgs : guardSt e x.guard = some (g == want) := by rw [hg]; simp only [guardSt, ht]
      cases g <;> cases want <;> simp only [cond_true, cond_false] at h
      · obtain ⟨v, H', h1, h2⟩ := on _ h
        exact .inl ⟨hgs, _, v, H', narrow_get ht, h1, h2⟩
      · exact .inr ⟨hgs, _, narrow_get ht, h⟩
      · exact .inr ⟨hgs, _, narrow_get ht, h⟩
      · obtain ⟨v, H', h1, h2⟩ := on _ h
        exact .inl ⟨hgs, _, v, H', narrow_get ht, h1, h2⟩
    · rename_i ht
      exact .inr ⟨by rw [hg]; simp only [guardSt, ht], e, fun _ => rfl, h⟩
    · cases h

theorem again_inv {x : AOper} {its : List Item} (h : evI1 calls (.again x :: its) e H = some r) : evI1 calls its e H = some r ∧ (offB e x.guard = true ∨ ∃ H', ev1 calls x.op e H = some (getD e x.dst, H')) := by
  unfold evI1 at *
  simp only [evIts] at h
  cases hb : offB e x.guard with
  | true => rw [hb] at h; exact ⟨h, .inl rfl⟩
  | false =>
    rw [hb, cond_false, evOp_ev1] at h
    obtain ⟨p, h1, h2⟩ := Option.bind_some_inv h
    split at h2
    · rename_i hv; exact ⟨h2, .inr ⟨p.2, by rw [h1, ← hv]⟩⟩
    · cases h2

theorem still_inv {x : AOper} {its : List Item} (h : evI1 calls (.still x :: its) e H = some r) :
    evI1 calls its e H = some r ∧ (offB e x.guard = true ∨ ∃ cs b, initCells e x.op some = some cs ∧ blkOf (getD e x.dst) = some b ∧ H[b]? = some (.cells cs .exact)) := by
  unfold evI1 at *
  simp only [evIts] at h
  cases hb : offB e x.guard with
  | true => rw [hb] at h; exact ⟨h, .inl rfl⟩
  | false =>
    rw [hb, cond_false] at h
    have hn := init_nat (e := e) x.op some (fun cs => match getD e x.dst with
      | .w (.one (.ptr (some a))) => if H[a.1]? = some (.cells cs .exact) then evIts calls its e H (fun e H => some (e, H)) else none
      | .w (.one (.sl _ s)) => s.p.bind fun a => if H[a.1]? = some (.cells cs .exact) then evIts calls its e H (fun e H => some (e, H)) else none
      | _ => none)
    rw [show (initCells e x.op fun cs => (some cs).bind _) = _ from rfl] at hn
    simp only [Option.bind_some] at hn
    replace h := hn.trans h
    obtain ⟨cs, h1, h2⟩ := Option.bind_some_inv h
    split at h2
    · rename_i a ha
      split at h2
      · rename_i hh; exact ⟨h2, .inr ⟨cs, a.1, h1, by rw [ha]; rfl, hh⟩⟩
      · cases h2
    · rename_i es s hs
      obtain ⟨a, h3, h4⟩ := Option.bind_some_inv h2
      split at h4
      · rename_i hh
        obtain ⟨p, len, cap⟩ := s
        simp only at h3
        subst h3
        exact ⟨h4, .inr ⟨cs, a.1, h1, by rw [hs]; rfl, hh⟩⟩
      · cases h4
    · cases h2

theorem put_get_eq {e : Env} {d : Nat} {v : V} : (put e (some d) v).get d = v := by rw [put, Env.get_cons, if_pos rfl]

theorem its_agree {eF : Env} {HF : Heap} : ∀ {its : List Item} {e : Env} {H : Heap}, evI1 calls its e H = some (eF, HF) → ∀ t, t ∉ itsDsts its → eF.get t = e.get t
  | [], e, H, h, t, _ => by cases h; rfl
  | .op x :: its, e, H, h, t, ht => by
    simp only [itsDsts, List.mem_append, not_or] at ht
    have hd : x.dst ≠ some t := by
      intro hh
      exact ht.1 (by simp [Item.dsts, hh])
    rcases op_inv h with ⟨_, e1, v, H', h1, _, h3⟩ | ⟨_, e1, h1, h3⟩
    · rw [its_agree h3 t ht.2, put_get_other hd, h1]
    · rw [its_agree h3 t ht.2, put_get_other hd, h1]
  | .again x :: its, e, H, h, t, ht => its_agree (again_inv h).1 t (fun hh => ht (by simp only [itsDsts, Item.dsts, List.nil_append]; exact hh))
  | .still x :: its, e, H, h, t, ht => its_agree (still_inv h).1 t (fun hh => ht (by simp only [itsDsts, Item.dsts, List.nil_append]; exact hh))

theorem anyFrom_spec {f : Nat → Oper → Bool} : ∀ {l : List Oper} {i : Nat}, anyFrom f i l = true → ∃ k o, l[k]? = some o ∧ f (i + k) o = true
  | [], _, h => by simp [anyFrom] at h
  | x :: r, i, h => by
    simp only [anyFrom, Bool.or_eq_true] at h
    rcases h with h | h
    · exact ⟨0, x, rfl, h⟩
    · obtain ⟨k, o, h1, h2⟩ := anyFrom_spec h
      exact ⟨k + 1, o, by simpa using h1, by rwa [show i + 1 + k = i + (k + 1) by omega] at h2⟩

/-- What an operation reads, as it is when it comes. -/
def seen (late : AOper → Nat → Bool) (e0 eF : Env) (x : AOper) : Env := x.slots.map fun t => (t, if late x t then e0.get t else eF.get t)
theorem seen_get {late : AOper → Nat → Bool} {e0 eF : Env} {x : AOper} (t : Nat) : (seen late e0 eF x).get t = if t ∈ x.slots then (if late x t then e0.get t else eF.get t) else .und := by
  unfold seen
  induction x.slots with
  | nil => simp [Env.get]
  | cons s l ih =>
    rw [List.map_cons, Env.get_cons, ih]
    by_cases h : s = t
    · subst h; simp
    · have : ¬ t = s := fun hh => h hh.symm
      simp [h, this]

/-! What is known of an operation that may still come. -/
def Fact (calls : Nat → Option Callee) (E : AOper → Env) (eF : Env) (H : Heap) (x : AOper) : Prop :=
  x.op.kl calls ≠ .E ∧
  ((guardSt (E x) x.guard = some false ∧ ∀ d, x.dst = some d → eF.get d = .off) ∨
   (guardSt (E x) x.guard = some true ∧
     ((x.op.kl calls ≠ .A ∧ ∃ v, ev1 calls x.op (E x) H = some (v, H) ∧ ∀ d, x.dst = some d → eF.get d = v) ∨
      (x.op.kl calls = .A ∧ ∃ cs d H0, x.dst = some d ∧ ev1 calls x.op (E x) H0 = some (eF.get d, H0 ++ [.cells cs .exact]) ∧ H[H0.length]? = some (.cells cs .exact) ∧ blkOf (eF.get d) = some H0.length))))

def blkx (calls : Nat → Option Callee) (eF : Env) (x : AOper) : Option Nat := if x.op.kl calls = .A then blkOf (getD eF x.dst) else none

theorem Fact.grow {E : AOper → Env} {eF : Env} {x : AOper} (h : Fact calls E eF H x) (bs : Heap) : Fact calls E eF (H ++ bs) x := by
  obtain ⟨h0, h⟩ := h
  refine ⟨h0, h.imp id ?_⟩
  rintro ⟨hg, h⟩
  refine ⟨hg, ?_⟩
  rcases h with ⟨ha, v, h1, h2⟩ | ⟨ha, cs, d, H0, h1, h2, h3, h4⟩
  · left
    refine ⟨ha, v, ?_, h2⟩
    cases hk : x.op.kl calls with
    | P => exact (ev1_P hk h1).2 _
    | R => exact (ev1_R hk h1).2 _
    | A => exact absurd hk ha
    | E => exact absurd hk h0
  · right
    exact ⟨ha, cs, d, H0, h1, h2, by rw [List.getElem?_append_left (List.getElem?_eq_some_iff.1 h3).1]; exact h3, h4⟩

theorem Fact.pure {E : AOper → Env} {eF : Env} {x : AOper} (h : Fact calls E eF H x) (hk : x.op.kl calls = .P) (G : Heap) : Fact calls E eF G x := by
  obtain ⟨h0, h⟩ := h
  refine ⟨h0, h.imp id ?_⟩
  rintro ⟨hg, h⟩
  refine ⟨hg, ?_⟩
  rcases h with ⟨ha, v, h1, h2⟩ | ⟨ha, _⟩
  · exact .inl ⟨ha, v, (ev1_P hk h1).2 _, h2⟩
  · rw [hk] at ha; cases ha

theorem off_of {e : Env} {g : Option (Nat × Bool)} (h : offB e g = true) : guardSt e g = some true → False := by
  intro hg
  unfold offB at h
  unfold guardSt at hg
  split at h
  · cases h
  · rename_i t want
    split at h
    · rename_i b hb
      simp only [hb, Option.some.injEq] at hg
      cases b <;> cases want <;> simp at h hg
    · rename_i hb
      simp only [hb] at hg
      cases hg
    · cases h

theorem Fact.again {E : AOper → Env} {eF : Env} {x : AOper} {G : Heap} (h : Fact calls E eF G x) (hk : x.op.kl calls = .R) (hl : offB (E x) x.guard = true ∨ ∃ H', ev1 calls x.op (E x) H = some (getD eF x.dst, H')) : Fact calls E eF H x := by
  obtain ⟨h0, h⟩ := h
  refine ⟨h0, ?_⟩
  rcases h with h | ⟨hg, _⟩
  · exact .inl h
  · rcases hl with hl | ⟨H', hl⟩
    · exact (off_of hl hg).elim
    · have := (ev1_R hk hl).1
      subst this
      exact .inr ⟨hg, .inl ⟨by rw [hk]; decide, _, hl, fun d hd => by rw [hd]; rfl⟩⟩

theorem Fact.still {E : AOper → Env} {eF : Env} {x : AOper} {G : Heap} (h : Fact calls E eF G x) (hk : x.op.kl calls = .A)
    (hl : offB (E x) x.guard = true ∨ ∃ cs b, initCells (E x) x.op some = some cs ∧ blkOf (getD eF x.dst) = some b ∧ H[b]? = some (.cells cs .exact)) : Fact calls E eF H x := by
  obtain ⟨h0, h⟩ := h
  refine ⟨h0, ?_⟩
  rcases h with h | ⟨hg, h⟩
  · exact .inl h
  · rcases hl with hl | ⟨cs, b, g1, g2, g3⟩
    · exact (off_of hl hg).elim
    · rcases h with ⟨ha, _⟩ | ⟨ha, cs', d, H0, q1, q2, q3, q4⟩
      · exact absurd hk ha
      · obtain ⟨cs2, p1, p2, p3⟩ := ev1_A hk q2
        rw [g1] at p1
        cases p1
        have := List.append_cancel_left p2
        cases this
        rw [q1] at g2
        have g2 : blkOf (eF.get d) = some b := g2
        rw [q4] at g2
        cases g2
        exact .inr ⟨hg, .inr ⟨ha, _, d, H0, q1, q2, g3, q4⟩⟩

theorem Fact.blk {E : AOper → Env} {eF : Env} {x : AOper} (h : Fact calls E eF H x) {b : Nat} (hb : blkx calls eF x = some b) : b < H.length := by
  unfold blkx at hb
  split at hb
  · rename_i hk
    obtain ⟨_, h⟩ := h
    rcases h with ⟨_, h⟩ | ⟨_, h⟩
    · cases hd : x.dst with
      | none => rw [hd] at hb; cases hb
      | some d => rw [hd] at hb; have hb : blkOf (eF.get d) = some b := hb; rw [h d hd] at hb; cases hb
    · rcases h with ⟨ha, _⟩ | ⟨_, cs, d, H0, q1, q2, q3, q4⟩
      · exact absurd hk ha
      · rw [q1] at hb
        have hb : blkOf (eF.get d) = some b := hb
        rw [q4] at hb
        cases hb
        exact (List.getElem?_eq_some_iff.1 q3).1
  · cases hb

def Dis (calls : Nat → Option Callee) (eF : Env) (l : List AOper) : Prop := ∀ x ∈ l, ∀ y ∈ l, ∀ b, blkx calls eF x = some b → blkx calls eF y = some b → x.idx = y.idx
def Head (calls : Nat → Option Callee) (its : List Item) : Prop := its = [] ∨ ∃ x r, its = .op x :: r ∧ x.op.kl calls = .E

theorem guardSt_congr {e e' : Env} {g : Option (Nat × Bool)} (h : ∀ t, (∃ b, g = some (t, b)) → e.get t = e'.get t) : guardSt e g = guardSt e' g := by
  cases g with
  | none => rfl
  | some tb => obtain ⟨t, b⟩ := tb; simp only [guardSt, h t ⟨b, rfl⟩]
theorem offB_congr {e e' : Env} {g : Option (Nat × Bool)} (h : ∀ t, (∃ b, g = some (t, b)) → e.get t = e'.get t) : offB e g = offB e' g := by
  cases g with
  | none => rfl
  | some tb => obtain ⟨t, b⟩ := tb; simp only [offB, h t ⟨b, rfl⟩]
theorem guard_slot {x : AOper} {t : Nat} (h : ∃ b, x.guard = some (t, b)) : t ∈ x.slots := by
  obtain ⟨b, h⟩ := h; simp [AOper.slots, h]
theorem op_slot {x : AOper} {t : Nat} (h : t ∈ x.op.slots) : t ∈ x.slots := by simp [AOper.slots, h]

/-- Up to the next effect. -/
theorem advance {ms : List Nat} {late : AOper → Nat → Bool} {e0 eF : Env} {HF : Heap} : ∀ (its : List Item) (pend need : List AOper) (e : Env) (H : Heap), evI1 calls its e H = some (eF, HF) → laterOK late its = true → (∀ t ∈ itsDsts its, e.get t = e0.get t) → chk calls ms pend need its = true →
    (∀ x ∈ pend, x ∉ need → Fact calls (seen late e0 eF) eF H x) → (∀ x ∈ need, ∃ G, Fact calls (seen late e0 eF) eF G x) → (∀ x ∈ pend, ∀ b, blkx calls eF x = some b → b < H.length) → Dis calls eF pend →
    ∃ segs its2 e2 bs, evI1 calls its2 e2 (H ++ bs) = some (eF, HF) ∧ laterOK late its2 = true ∧ (∀ t ∈ itsDsts its2, e2.get t = e0.get t) ∧ chk calls ms (pend ++ segs) [] its2 = true ∧ Head calls its2 ∧ (∀ x ∈ bs, ∃ cs bk, x = Blk.cells cs bk) ∧
      (∀ x ∈ pend ++ segs, Fact calls (seen late e0 eF) eF (H ++ bs) x) ∧ Dis calls eF (pend ++ segs) ∧ (∀ x ∈ segs, ∀ b, blkx calls eF x = some b → H.length ≤ b) ∧ itsOps its = segs ++ itsOps its2
  | [], pend, need, e, H, hev, hl, hz, hc, hf, hn, hb, hd => by
    simp only [chk, List.isEmpty_iff] at hc
    subst hc
    exact ⟨[], [], e, [], by simpa using hev, rfl, by simp [itsDsts], by simp [chk], .inl rfl, by simp, by simpa using fun x hx => hf x hx (by simp), by simpa using hd, by simp, rfl⟩
  | .op x :: its, pend, need, e, H, hev, hl, hz, hc, hf, hn, hb, hd => by
    simp only [chk] at hc
    by_cases hk : x.op.kl calls = .E
    · simp only [hk, decide_true, cond_true, Bool.and_eq_true, List.isEmpty_iff] at hc
      obtain ⟨⟨rfl, h2⟩, h3⟩ := hc
      refine ⟨[], .op x :: its, e, [], by simpa using hev, hl, hz, ?_, .inr ⟨x, its, rfl, hk⟩, by simp, by simpa using fun x hx => hf x hx (by simp), by simpa using hd, by simp, rfl⟩
      simp only [chk, hk, decide_true, cond_true, List.append_nil, Bool.and_eq_true, List.isEmpty_nil]
      exact ⟨⟨trivial, h2⟩, h3⟩
    · simp only [hk, decide_false, cond_false, Bool.and_eq_true] at hc
      obtain ⟨hc0, hc⟩ := hc
      have hl0 := hl
      simp only [laterOK, Bool.and_eq_true] at hl
      obtain ⟨⟨l1, l2⟩, l3⟩ := hl
      have hag := its_agree hev
      have hs : ∀ t ∈ x.slots, (seen late e0 eF x).get t = e.get t := by
        intro t ht
        rw [seen_get, if_pos ht]
        have hl1 := eq_of_beq (List.all_eq_true.1 l1 t ht)
        split
        · rename_i hlt
          rw [hlt] at hl1
          exact (hz t ((memB_iff _ _).1 hl1.symm)).symm
        · rename_i hlt
          refine hag t (fun hh => hlt ?_)
          rw [hl1]
          exact (memB_iff _ _).2 hh
      have hz' : ∀ {e1 : Env} {v : V}, (∀ t, Env.get e1 t = e.get t) → ∀ t ∈ itsDsts its, (put e1 x.dst v).get t = e0.get t := by
        intro e1 v h t ht
        have hne : x.dst ≠ some t := by
          intro hh
          rw [hh] at l2
          simp only [Bool.not_eq_true'] at l2
          rw [(memB_iff _ _).2 ht] at l2; cases l2
        rw [put_get_other hne, h]
        exact hz t (by simp only [itsDsts, List.mem_append]; exact .inr ht)
      have hds : ∀ {e1 : Env} {H' : Heap} {v : V}, evI1 calls its (put e1 x.dst v) H' = some (eF, HF) → ∀ d, x.dst = some d → eF.get d = v := by
        intro e1 H' v h d hd
        rw [hd] at l2 h
        rw [its_agree h d (fun hh => by simp only [Bool.not_eq_true'] at l2; rw [(memB_iff _ _).2 hh] at l2; cases l2), put_get_eq]
      have hgu : guardSt (seen late e0 eF x) x.guard = guardSt e x.guard := guardSt_congr fun t ht => hs t (guard_slot ht)
      have hev1 : ∀ {e1 : Env} {G : Heap}, (∀ t, Env.get e1 t = e.get t) → ev1 calls x.op (seen late e0 eF x) G = ev1 calls x.op e1 G := by
        intro e1 G h
        exact evOp_congr (fun t ht => by rw [h, hs t (op_slot ht)]) _ _
      -- the rest, once the fact is known
      have go : ∀ {e1 : Env} {bs0 : Heap}, evI1 calls its e1 (H ++ bs0) = some (eF, HF) → (∀ t ∈ itsDsts its, e1.get t = e0.get t) → (∀ y ∈ bs0, ∃ cs bk, y = Blk.cells cs bk) → Fact calls (seen late e0 eF) eF (H ++ bs0) x → (∀ b, blkx calls eF x = some b → H.length ≤ b) →
          ∃ segs its2 e2 bs, evI1 calls its2 e2 (H ++ bs) = some (eF, HF) ∧ laterOK late its2 = true ∧ (∀ t ∈ itsDsts its2, e2.get t = e0.get t) ∧ chk calls ms (pend ++ segs) [] its2 = true ∧ Head calls its2 ∧ (∀ x ∈ bs, ∃ cs bk, x = Blk.cells cs bk) ∧
          (∀ x ∈ pend ++ segs, Fact calls (seen late e0 eF) eF (H ++ bs) x) ∧ Dis calls eF (pend ++ segs) ∧ (∀ x ∈ segs, ∀ b, blkx calls eF x = some b → H.length ≤ b) ∧ itsOps (.op x :: its) = segs ++ itsOps its2 := by
        intro e1 bs0 hev' hz1 hbs hfx hbx
        have hlen : ∀ y ∈ pend ++ [x], ∀ b, blkx calls eF y = some b → b < (H ++ bs0).length := by
          intro y hy b hyb
          rcases List.mem_append.1 hy with hy | hy
          · rw [List.length_append]; exact Nat.lt_of_lt_of_le (hb y hy b hyb) (Nat.le_add_right _ _)
          · rw [List.mem_singleton.1 hy] at hyb; exact hfx.blk hyb
        obtain ⟨segs, its2, e2, bs, g1, g2, g0, g3, g4, g5, g6, g7, g8, g9⟩ := advance its (pend ++ [x]) need e1 (H ++ bs0) hev' l3 hz1 hc
          (fun y hy hny => by
            rcases List.mem_append.1 hy with hy | hy
            · exact (hf y hy hny).grow bs0
            · rw [List.mem_singleton.1 hy]; exact hfx)
          hn hlen
          (fun y hy z hz b h1 h2 => by
            rcases List.mem_append.1 hy with hy | hy <;> rcases List.mem_append.1 hz with hz | hz
            · exact hd y hy z hz b h1 h2
            · rw [List.mem_singleton.1 hz] at h2
              have := hbx b h2
              have := hb y hy b h1
              omega
            · rw [List.mem_singleton.1 hy] at h1
              have := hbx b h1
              have := hb z hz b h2
              omega
            · rw [List.mem_singleton.1 hy, List.mem_singleton.1 hz])
        refine ⟨x :: segs, its2, e2, bs0 ++ bs, by rw [← List.append_assoc]; exact g1, g2, g0, by rw [List.append_cons]; exact g3, g4, ?_, by rw [List.append_cons, ← List.append_assoc]; exact g6, by rw [List.append_cons]; exact g7, ?_, by simp only [itsOps, List.cons_append]; rw [g9]⟩
        · intro y hy
          rcases List.mem_append.1 hy with hy | hy
          · exact hbs y hy
          · exact g5 y hy
        · intro y hy b hyb
          rcases List.mem_cons.1 hy with hy | hy
          · rw [hy] at hyb; exact hbx b hyb
          · have := g8 y hy b hyb
            rw [List.length_append] at this
            omega
      rcases op_inv hev with ⟨hg, e1, v, H', h1, h2, h3⟩ | ⟨hg, e1, h1, h3⟩
      · rw [← hev1 h1] at h2
        by_cases ha : x.op.kl calls = .A
        · obtain ⟨cs, q1, rfl, q3⟩ := ev1_A ha h2
          simp only [ha, decide_true, Bool.not_true, Bool.false_or] at hc0
          obtain ⟨d, hdd⟩ := Option.isSome_iff_exists.1 hc0
          have hvd := hds h3 d hdd
          refine go (bs0 := [.cells cs .exact]) h3 (hz' h1) (by simp) ⟨hk, .inr ⟨hgu.trans hg, .inr ⟨ha, cs, d, H, hdd, by rw [hvd]; exact h2, by simp, by rw [hvd]; exact q3⟩⟩⟩ ?_
          intro b hbx
          unfold blkx at hbx
          rw [if_pos ha, hdd] at hbx
          have hbx : blkOf (eF.get d) = some b := hbx
          rw [hvd, q3] at hbx
          cases hbx
          exact Nat.le_refl _
        · have hH : H' = H := by
            cases hkk : x.op.kl calls with
            | P => exact (ev1_P hkk h2).1
            | R => exact (ev1_R hkk h2).1
            | A => exact absurd hkk ha
            | E => exact absurd hkk hk
          subst hH
          refine go (bs0 := []) (by rw [List.append_nil]; exact h3) (hz' h1) (by simp) ⟨hk, .inr ⟨hgu.trans hg, .inl ⟨ha, v, by rw [List.append_nil]; exact h2, hds h3⟩⟩⟩ ?_
          intro b hbx
          unfold blkx at hbx
          rw [if_neg ha] at hbx
          cases hbx
      · refine go (bs0 := []) (by rw [List.append_nil]; exact h3) (hz' h1) (by simp) ⟨hk, .inl ⟨hgu.trans hg, hds h3⟩⟩ ?_
        intro b hbx
        unfold blkx at hbx
        split at hbx
        · cases hdd : x.dst with
          | none => rw [hdd] at hbx; cases hbx
          | some d =>
            rw [hdd] at hbx
            have hbx : blkOf (eF.get d) = some b := hbx
            rw [hds h3 d hdd] at hbx
            cases hbx
        · cases hbx
  | .again x :: its, pend, need, e, H, hev, hl, hz, hc, hf, hn, hb, hd => by
    simp only [chk, Bool.and_eq_true, decide_eq_true_eq] at hc
    obtain ⟨hk, hc⟩ := hc
    have hag := its_agree hev
    simp only [laterOK, Bool.and_eq_true] at hl
    obtain ⟨⟨l1, l2⟩, l3⟩ := hl
    have hs : ∀ t ∈ x.slots, (seen late e0 eF x).get t = e.get t := by
      intro t ht
      have := List.all_eq_true.1 l1 t ht
      simp only [Bool.and_eq_true, Bool.not_eq_true'] at this
      rw [seen_get, if_pos ht, this.1, if_neg (by decide)]
      refine hag t (fun hh => ?_)
      have h2 := this.2
      rw [(memB_iff _ _).2 (by simpa [itsDsts, Item.dsts] using hh)] at h2
      cases h2
    have hgd : getD eF x.dst = getD e x.dst := by
      cases hdd : x.dst with
      | none => rfl
      | some d =>
        rw [hdd] at l2
        refine hag d (fun hh => ?_)
        simp only [Bool.not_eq_true'] at l2
        rw [(memB_iff _ _).2 (by simpa [itsDsts, Item.dsts] using hh)] at l2
        cases l2
    obtain ⟨h1, h2⟩ := again_inv hev
    have hlook : offB (seen late e0 eF x) x.guard = true ∨ ∃ H', ev1 calls x.op (seen late e0 eF x) H = some (getD eF x.dst, H') := by
      rw [offB_congr (e' := e) fun t ht => hs t (guard_slot ht), hgd]
      refine h2.imp id ?_
      rintro ⟨H', h⟩
      exact ⟨H', by rw [← h]; exact evOp_congr (fun t ht => hs t (op_slot ht)) _ _⟩
    obtain ⟨segs, its2, e2, bs, g⟩ := advance its pend (need.filter fun y => !decide (y = x)) e H h1 l3 (fun t ht => hz t (by simpa [itsDsts, Item.dsts] using ht)) hc
      (fun y hy hny => by
        by_cases hyn : y ∈ need
        · by_cases hyx : y = x
          · subst hyx
            obtain ⟨G, hG⟩ := hn y hyn
            exact hG.again hk hlook
          · exact absurd (List.mem_filter.2 ⟨hyn, by simp [hyx]⟩) hny
        · exact hf y hy hyn)
      (fun y hy => hn y (List.mem_filter.1 hy).1) hb hd
    exact ⟨segs, its2, e2, bs, g⟩
  | .still x :: its, pend, need, e, H, hev, hl, hz, hc, hf, hn, hb, hd => by
    simp only [chk, Bool.and_eq_true, decide_eq_true_eq] at hc
    obtain ⟨hk, hc⟩ := hc
    have hag := its_agree hev
    simp only [laterOK, Bool.and_eq_true] at hl
    obtain ⟨⟨l1, l2⟩, l3⟩ := hl
    have hs : ∀ t ∈ x.slots, (seen late e0 eF x).get t = e.get t := by
      intro t ht
      have := List.all_eq_true.1 l1 t ht
      simp only [Bool.and_eq_true, Bool.not_eq_true'] at this
      rw [seen_get, if_pos ht, this.1, if_neg (by decide)]
      refine hag t (fun hh => ?_)
      have h2 := this.2
      rw [(memB_iff _ _).2 (by simpa [itsDsts, Item.dsts] using hh)] at h2
      cases h2
    have hgd : getD eF x.dst = getD e x.dst := by
      cases hdd : x.dst with
      | none => rfl
      | some d =>
        rw [hdd] at l2
        refine hag d (fun hh => ?_)
        simp only [Bool.not_eq_true'] at l2
        rw [(memB_iff _ _).2 (by simpa [itsDsts, Item.dsts] using hh)] at l2
        cases l2
    obtain ⟨h1, h2⟩ := still_inv hev
    have hlook : offB (seen late e0 eF x) x.guard = true ∨ ∃ cs b, initCells (seen late e0 eF x) x.op some = some cs ∧ blkOf (getD eF x.dst) = some b ∧ H[b]? = some (.cells cs .exact) := by
      rw [offB_congr (e' := e) fun t ht => hs t (guard_slot ht), hgd]
      refine h2.imp id ?_
      rintro ⟨cs, b, q1, q2, q3⟩
      exact ⟨cs, b, by rw [← q1]; exact init_congr (fun t ht => hs t (op_slot ht)) _, q2, q3⟩
    obtain ⟨segs, its2, e2, bs, g⟩ := advance its pend (need.filter fun y => !decide (y = x)) e H h1 l3 (fun t ht => hz t (by simpa [itsDsts, Item.dsts] using ht)) hc
      (fun y hy hny => by
        by_cases hyn : y ∈ need
        · by_cases hyx : y = x
          · subst hyx
            obtain ⟨G, hG⟩ := hn y hyn
            exact hG.still hk hlook
          · exact absurd (List.mem_filter.2 ⟨hyn, by simp [hyx]⟩) hny
        · exact hf y hy hyn)
      (fun y hy => hn y (List.mem_filter.1 hy).1) hb hd
    exact ⟨segs, its2, e2, bs, g⟩
end
end Ev
