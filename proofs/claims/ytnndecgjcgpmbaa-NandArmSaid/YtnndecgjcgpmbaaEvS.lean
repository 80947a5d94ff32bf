/- Statements: what the evaluator tells of them is what the machine does. Regions that draw stand as a premise here. -/
import Derived.Test.YtnndecgjcgpmbaaEvReg
import Derived.Scope
namespace Ev
open Go

def Ex.to : Ex → Exit
  | .normal => .normal
  | .ret => .ret
  | .exit id => .exit id

/-- Regions that draw: the checker, and what it promises. -/
def RegSound (P : Program) (calls : Nat → Option Callee) (nt : Nat) (its : List Item) (ops : Array Oper) : Prop :=
  ∀ {R0 : Type} {k : Env → Heap → Option R0} {r : R0} {ρ : Rho} {e : Env} {H : Heap} {a : Act} {w : World} {Q : Exit → Act → World → Prop} (id : Nat),
    R ρ H w → EnvRel ρ e a → nt ≤ a.tmps.size → evIts calls its e H k = some r →
    (∀ e' H' ρ' a' w', k e' H' = some r → Step nt (itsDsts its) ρ e H a w ρ' e' H' a' w' → Q .normal a' w') → (Code.region id ops true).wp P Q a w

section
variable (P : Program) (fids : Nat → Option FuncId) (nt : Nat) (drawOK : List Item → Array Oper → Bool)

def codeOK : A → Code → Bool
  | .scope _ a, c => codeOK a c
  | .skip, .skip => true
  | .ret, .ret => true
  | .exit i, .exit j => decide (i = j)
  | .seq a b, .seq c d => codeOK a c && codeOK b d
  | .cond x a b, .cond y c d => opdOK x y && codeOK a c && codeOK b d
  | .block i a, .block j c => decide (i = j) && codeOK a c
  | .loop _ _ a, .loop c => codeOK a c
  | .reg its, .region _ ops draw => bif draw then drawOK its ops else seqOK P fids nt ops its ops.toList
  | _, _ => false
end

theorem memB_iff (n : Nat) : ∀ l : List Nat, memB n l = true ↔ n ∈ l
  | [] => by simp [memB]
  | m :: r => by
    simp only [memB]
    have ih := memB_iff n r
    cases hb : Nat.beq n m with
    | true => have := Nat.eq_of_beq_eq_true hb; subst this; simp
    | false =>
      have hne : n ≠ m := fun h => by subst h; simp at hb
      simp [ih, hne]

theorem without_get (ds : List Nat) (t : Nat) : ∀ e : Env, (Env.without e ds).get t = if t ∈ ds then .und else e.get t
  | [] => by simp [Env.without, Env.get]
  | (s, v) :: r => by
    have ih := without_get ds t r
    simp only [Env.without]
    cases hb : memB s ds with
    | true =>
      have hs := (memB_iff s ds).1 hb
      simp only [cond_true, ih, Env.get_cons]
      split
      · rfl
      · rename_i ht
        rw [if_neg (fun h => ht (by rw [← h]; exact hs))]
    | false =>
      have hs : s ∉ ds := fun h => by rw [(memB_iff s ds).2 h] at hb; cases hb
      simp only [cond_false, Env.get_cons, ih]
      split
      · rename_i h; subst h; rw [if_neg hs]
      · rfl

theorem get_append (t : Nat) : ∀ (x y : Env), (x ++ y).get t = (if t ∈ x.map Prod.fst then x.get t else y.get t)
  | [], y => by simp
  | (s, v) :: x, y => by
    rw [List.cons_append, Env.get_cons, get_append t x y, Env.get_cons]
    by_cases h : s = t
    · subst h; simp
    · have : t ≠ s := fun hh => h hh.symm
      have hm : (t ∈ List.map Prod.fst ((s, v) :: x)) ↔ t ∈ List.map Prod.fst x := by rw [List.map_cons, List.mem_cons]; exact ⟨fun hh => hh.resolve_left this, .inr⟩
      simp only [hm, if_neg h]

/-- What typed joins keep: each slot's own value. -/
theorem dec_get : ∀ {o : Outs} {e : Env} {x : OT o}, OT.enc o e = some x → ∀ t, t ∈ (OT.dec o x).map Prod.fst → (OT.dec o x).get t = e.get t
  | [], e, x, _, t, ht => by simp [OT.dec] at ht
  | (s, ty) :: o, e, x, h, t, ht => by
    simp only [OT.enc] at h
    split at h
    · rename_i y hy
      obtain ⟨p, h1, h2⟩ := Option.bind_some_inv h
      obtain ⟨q, h3, h4⟩ := Option.bind_some_inv h2
      cases h4
      simp only [OT.dec] at ht ⊢
      rw [Env.get_cons]
      split
      · rename_i hs; subst hs; rw [hy, Ty.un_mk h1]
      · rename_i hs
        rw [List.map_cons, List.mem_cons] at ht
        exact dec_get h3 t (ht.resolve_left (fun hh => hs hh.symm))
    · cases h

theorem dec_keys : ∀ {o : Outs} {x : OT o}, (OT.dec o x).map Prod.fst = o.map Prod.fst
  | [], _ => rfl
  | (s, t) :: o, x => by simp only [OT.dec, List.map_cons]; rw [dec_keys]

theorem XV.enc_dec {R0 : Type} : ∀ {xs : List (Ex × Outs)} {ex : Ex} {e : Env} {x : XV xs} {k : Ex → Env → Option R0} {r : R0}, XV.enc xs ex e = some x → XV.dec xs x k = some r →
    ∃ (o : Outs) (y : OT o), (ex, o) ∈ xs ∧ OT.enc o e = some y ∧ k ex (OT.dec o y) = some r
  | [], _, _, _, _, _, h, _ => by cases h
  | [o], ex, e, x, k, r, h, hd => by
    simp only [XV.enc] at h
    obtain ⟨h1, h2⟩ := cond_some_inv h
    have h1 := of_decide_eq_true h1
    subst h1
    exact ⟨o.2, x, by simp, h2, hd⟩
  | o :: p :: rest, ex, e, x, k, r, h, hd => by
    simp only [XV.enc] at h
    cases hb : decide (o.1 = ex) with
    | true =>
      rw [hb] at h
      have h1 := of_decide_eq_true hb
      obtain ⟨y, h2, h3⟩ := Option.bind_some_inv h
      cases h3
      subst h1
      exact ⟨o.2, y, by simp, h2, hd⟩
    | false =>
      rw [hb] at h
      obtain ⟨y, h2, h3⟩ := Option.bind_some_inv h
      cases h3
      obtain ⟨o', y', m1, m2, m3⟩ := XV.enc_dec h2 hd
      exact ⟨o', y', List.mem_cons_of_mem _ m1, m2, m3⟩

section
variable {P : Program} {nt : Nat} {calls : Nat → Option Callee} {fids : Nat → Option FuncId} {drawOK : List Item → Array Oper → Bool}

/-- After a join: what lives. -/
theorem join_rel {ρ' : Rho} {e e' : Env} {a' : Act} {ds : List Nat} {o : Outs} {y : OT o} (he' : EnvRel ρ' e' a') (hy : OT.enc o e' = some y) (ha : ∀ t, t ∉ ds → e'.get t = e.get t) :
    EnvRel ρ' (OT.dec o y ++ e.without ds) a' := by
  intro t
  rw [get_append]
  split
  · rename_i ht; rw [dec_get hy t ht]; exact he' t
  · rw [without_get]
    split
    · trivial
    · rename_i ht; rw [← ha t ht]; exact he' t

theorem join_agree {e e' : Env} {ds : List Nat} {o : Outs} {y : OT o} (hy : OT.enc o e' = some y) (ha : ∀ t, t ∉ ds → e'.get t = e.get t) (t : Nat) (ht : t ∉ ds) :
    (OT.dec o y ++ e.without ds).get t = e.get t := by
  rw [get_append]
  split
  · rename_i h; rw [dec_get hy t h]; exact ha t ht
  · rw [without_get, if_neg ht]

theorem loopW_some {S X : Type} {step : S → Heap → Option ((S ⊕ X) × Heap)} {s : S} {H : Heap} {r : X × Heap} (h : loopW step s H = some r) : ∃ n, iter step n s H = some r := by
  unfold loopW at h
  split at h
  · rename_i hex
    cases h
    exact Classical.choose_spec hex
  · cases h

theorem evS_goes (hCO : CallsOK P calls fids) (hD : ∀ its ops, drawOK its ops = true → RegSound P calls nt its ops) :
    ∀ (s : A) (c : Code), codeOK P fids nt drawOK s c = true → ∀ {R0 : Type} (k : Ex → Env → Heap → Option R0) (r : R0) (ρ : Rho) (e : Env) (H : Heap) (a : Act) (w : World) (Q : Exit → Act → World → Prop),
      evS calls s e H k = some r → R ρ H w → EnvRel ρ e a → nt ≤ a.tmps.size →
      (∀ ex e' H' ρ' a' w', k ex e' H' = some r → Step nt s.dsts ρ e H a w ρ' e' H' a' w' → Q ex.to a' w') → c.wp P Q a w := by
  intro s
  induction s with
  | skip =>
    intro c ok R0 k r ρ e H a w Q hev hR he hs hn
    cases c <;> simp only [codeOK] at ok <;> try contradiction
    exact wp_skip (hn .normal e H ρ a w hev (Step.refl hR he hs))
  | ret =>
    intro c ok R0 k r ρ e H a w Q hev hR he hs hn
    cases c <;> simp only [codeOK] at ok <;> try contradiction
    exact wp_ret (hn .ret e H ρ a w hev (Step.refl hR he hs))
  | exit id =>
    intro c ok R0 k r ρ e H a w Q hev hR he hs hn
    cases c <;> simp only [codeOK] at ok <;> try contradiction
    have ok := of_decide_eq_true ok
    subst ok
    exact wp_exit (hn (.exit id) e H ρ a w hev (Step.refl hR he hs))
  | seq x y ihx ihy =>
    intro c ok R0 k r ρ e H a w Q hev hR he hs hn
    cases c <;> simp only [codeOK] at ok <;> try contradiction
    simp only [Bool.and_eq_true] at ok
    refine wp_seq (ihx _ ok.1 _ r ρ e H a w _ hev hR he hs ?_)
    intro ex e' H' ρ' a' w' hk hst
    have up : ∀ {ex}, k ex e' H' = some r → Q ex.to a' w' := fun {ex} hk =>
      hn ex e' H' ρ' a' w' hk ⟨hst.rel, hst.env, hst.ext, hst.size, hst.defers, fun t ht => hst.agree t (fun hh => ht (by simp [A.dsts, hh]))⟩
    cases ex with
    | normal =>
      refine ihy _ ok.2 k r ρ' e' H' a' w' _ hk hst.rel hst.env hst.size ?_
      intro ex e'' H'' ρ'' a'' w'' hk' hst'
      exact hn ex _ _ _ _ _ hk' (hst.trans hR hst' (fun t ht => by simp only [A.dsts, List.mem_append]; exact ht))
    | ret => exact up hk
    | exit id => exact up hk
  | cond x y z ihy ihz =>
    intro c ok R0 k r ρ e H a w Q hev hR he hs hn
    cases c <;> simp only [codeOK] at ok <;> try contradiction
    simp only [Bool.and_eq_true] at ok
    obtain ⟨⟨o1, o2⟩, o3⟩ := ok
    simp only [evS] at hev
    split at hev
    · rename_i t ht
      have hb := vrel_bool (opd_rel he o1) ht
      refine wp_cond hb ?_
      cases t
      · exact ihz _ o3 k r ρ e H a w Q hev hR he hs fun ex e' H' ρ' a' w' hk hst =>
          hn ex _ _ _ _ _ hk ⟨hst.rel, hst.env, hst.ext, hst.size, hst.defers, fun t ht => hst.agree t (fun hh => ht (by simp [A.dsts, hh]))⟩
      · exact ihy _ o2 k r ρ e H a w Q hev hR he hs fun ex e' H' ρ' a' w' hk hst =>
          hn ex _ _ _ _ _ hk ⟨hst.rel, hst.env, hst.ext, hst.size, hst.defers, fun t ht => hst.agree t (fun hh => ht (by simp [A.dsts, hh]))⟩
    · cases hev
  | block id x ih =>
    intro c ok R0 k r ρ e H a w Q hev hR he hs hn
    cases c <;> simp only [codeOK] at ok <;> try contradiction
    simp only [Bool.and_eq_true, decide_eq_true_eq] at ok
    obtain ⟨rfl, ok⟩ := ok
    simp only [evS] at hev
    refine wp_block (ih _ ok _ r ρ e H a w _ hev hR he hs ?_)
    intro ex e' H' ρ' a' w' hk hst
    by_cases hx : ex = .exit id
    · subst hx
      simp only [decide_true, cond_true] at hk
      simp only [Ex.to, Exit.inBlock, if_true]
      exact hn .normal _ _ _ _ _ hk hst
    · simp only [hx, decide_false, cond_false] at hk
      have hq := hn ex _ _ _ _ _ hk hst
      cases ex with
      | normal => exact hq
      | ret => exact hq
      | exit id' =>
        have : id' ≠ id := fun h => hx (by rw [h])
        simp only [Ex.to, Exit.inBlock, if_neg this]
        exact hq
  | reg its =>
    intro c ok R0 k r ρ e H a w Q hev hR he hs hn
    cases c <;> simp only [codeOK] at ok <;> try contradiction
    rename_i id ops draw
    simp only [evS] at hev
    cases draw with
    | true => exact hD its ops ok id hR he hs hev fun e' H' ρ' a' w' hk hst => hn .normal _ _ _ _ _ hk hst
    | false =>
      refine wp_region ?_
      have := seq_goes (Q := Q) hCO its ops.toList 0 ρ e H a w (by simp) ok hR he hs hev fun e' H' ρ' a' w' hk hst => hn .normal _ _ _ _ _ hk hst
      rw [Array.length_toList] at this
      rw [List.range_eq_range']
      exact this
  | scope xs x ih =>
    intro c ok R0 k r ρ e H a w Q hev hR he hs hn
    have ok : codeOK P fids nt drawOK x c = true := by cases c <;> exact ok
    simp only [evS] at hev
    obtain ⟨p, h1, h2⟩ := Option.bind_some_inv hev
    refine ih c ok _ p ρ e H a w _ h1 hR he hs ?_
    intro ex e' H' ρ' a' w' hk hst
    obtain ⟨y, h3, h4⟩ := Option.bind_some_inv hk
    cases h4
    obtain ⟨o, z, _, m2, m3⟩ := XV.enc_dec h3 h2
    exact hn ex _ _ _ _ _ m3 ⟨hst.rel, join_rel hst.env m2 hst.agree, hst.ext, hst.size, hst.defers, fun t ht => join_agree m2 hst.agree t ht⟩
  | loop st xs x ih =>
    intro c ok R0 k r ρ e H a w Q hev hR he hs hn
    cases c <;> simp only [codeOK] at ok <;> try contradiction
    rename_i c
    simp only [evS] at hev
    obtain ⟨s0, h0, hev1⟩ := Option.bind_some_inv hev
    obtain ⟨p, h1, h2⟩ := Option.bind_some_inv hev1
    obtain ⟨n, hit⟩ := loopW_some h1
    refine wp_loop_rounds n ?_
    have key : ∀ (n : Nat) (s : OT st) (e1 : Env) (H1 : Heap) (ρ1 : Rho) (a1 : Act) (w1 : World), iter (fun s H => evS calls x (OT.dec st s ++ e.without x.dsts) H fun ex e' H' =>
          match ex with
          | .normal => (OT.enc st e').bind fun s' => some (Sum.inl s', H')
          | ex => (XV.enc xs ex e').bind fun x => some (Sum.inr x, H')) n s H1 = some p →
        OT.enc st e1 = some s → Step nt x.dsts ρ e H a w ρ1 e1 H1 a1 w1 → Code.rounds P c Q n a1 w1 := by
      intro n
      induction n with
      | zero => intro s e1 H1 ρ1 a1 w1 h; cases h
      | succ n ihn =>
        intro s e1 H1 ρ1 a1 w1 hit hs1 hst1
        simp only [iter] at hit
        obtain ⟨q, hq1, hq2⟩ := Option.bind_some_inv hit
        rw [rounds_succ]
        have hag : ∀ t, t ∉ x.dsts → (OT.dec st s ++ e.without x.dsts).get t = e.get t := fun t ht => join_agree hs1 hst1.agree t ht
        refine ih c ok _ q ρ1 (OT.dec st s ++ e.without x.dsts) H1 a1 w1 _ hq1 hst1.rel (join_rel hst1.env hs1 hst1.agree) hst1.size ?_
        intro ex e' H' ρ' a' w' hk hst
        have hall : Step nt x.dsts ρ e H a w ρ' e' H' a' w' :=
          ⟨hst.rel, hst.env, hst1.ext.trans hst.ext hR.dom, hst.size, hst.defers.trans hst1.defers, fun t ht => by rw [hst.agree t ht, hag t ht]⟩
        have out : ∀ {ex : Ex}, ((XV.enc xs ex e').bind fun x => some ((Sum.inr x, H') : (OT st ⊕ XV xs) × Heap)) = some q → Q ex.to a' w' := by
          intro ex hk
          obtain ⟨y, h3, h4⟩ := Option.bind_some_inv hk
          cases h4
          simp only [Sum.elim_inr] at hq2
          cases hq2
          obtain ⟨o, z, _, m2, m3⟩ := XV.enc_dec h3 h2
          exact hn ex _ _ _ _ _ m3 ⟨hall.rel, join_rel hall.env m2 hall.agree, hall.ext, hall.size, hall.defers, fun t ht => join_agree m2 hall.agree t ht⟩
        cases ex with
        | normal =>
          simp only at hk
          obtain ⟨s', h3, h4⟩ := Option.bind_some_inv hk
          cases h4
          simp only [Sum.elim_inl] at hq2
          exact ihn s' e' H' ρ' a' w' hq2 h3 hall
        | ret => exact out hk
        | exit id => exact out hk
    exact key n s0 e H ρ a w hit h0 (Step.refl hR he hs)

end
end Ev
