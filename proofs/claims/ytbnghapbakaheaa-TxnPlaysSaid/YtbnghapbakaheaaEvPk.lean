/- Package maps: maps.Clone; slices.Sorted of maps.Keys: the library's contracts as sound callees. -/
import Derived.Test.YtbnghapbakaheaaEvTie
import Derived.Shelf.SlMaps.Clone
import Derived.Shelf.SlIterI.Nil
namespace Ev
open Go Go.Proofs Go.Maps Go.Shelf Go.RowKit

theorem ints_rel {ρ : Rho} : ∀ zs : List Int, CsRel ρ (zs.map (C.int .i64)) (zs.map encZ)
  | [] => trivial
  | _ :: r => ⟨rfl, ints_rel r⟩

/-- A map more, with entries. -/
theorem R.copyMp {ρ : Rho} {H : Heap} {w : World} (r : R ρ H w) {es : MEs} {ents : Array MapEntry} {ck dc : Nat} (hm : MpRel (ρ.set H.length ⟨w.heap.size, 0, 0, 0, false⟩) ⟨w.heap.size, 0, 0, 0, false⟩ es (w.alloc (.map ents ck))) :
    R (ρ.set H.length ⟨w.heap.size, 0, 0, 0, false⟩) (H ++ [.mp es dc]) (w.alloc (.map ents ck)) ∧
    Ext ρ H w (ρ.set H.length ⟨w.heap.size, 0, 0, 0, false⟩) (H ++ [.mp es dc]) (w.alloc (.map ents ck)) := by
  have hn := r.none_of_len
  have hle := Rho.le_set ⟨w.heap.size, 0, 0, 0, false⟩ hn
  have hw : (w.alloc (.map ents ck)).heap = w.heap.push (.map ents ck) := rfl
  have hold : ∀ k, k < w.heap.size → (w.alloc (.map ents ck)).heap[k]? = w.heap[k]? := fun k hk => by rw [hw, getElem?_push_lt _ _ hk]
  have goc : ∀ (x : Nat) (a : List C) (k : BK), (H ++ [Blk.mp es dc])[x]? = some (.cells a k) → x < H.length ∧ H[x]? = some (.cells a k) := by
    intro x a k h
    rcases Nat.lt_or_ge x H.length with hx | hx
    · rw [List.getElem?_append_left hx] at h; exact ⟨hx, h⟩
    · rw [List.getElem?_append_right hx] at h
      cases hc : x - H.length <;> simp [hc] at h
  have gom : ∀ (x : Nat) (e1 : MEs) (c1 : Nat), (H ++ [Blk.mp es dc])[x]? = some (.mp e1 c1) → (x = H.length ∧ e1 = es ∧ c1 = dc) ∨ (x < H.length ∧ H[x]? = some (.mp e1 c1)) := by
    intro x e1 c1 h
    rcases Nat.lt_or_ge x H.length with hx | hx
    · rw [List.getElem?_append_left hx] at h; exact .inr ⟨hx, h⟩
    · rw [List.getElem?_append_right hx] at h
      cases hc : x - H.length with
      | zero => simp [hc] at h; exact .inl ⟨by omega, h.1.symm, h.2.symm⟩
      | succ n => simp [hc] at h
  refine ⟨⟨?_, ?_, ?_, ?_, ?_⟩, ⟨hle, by simp, ?_, fun b hb h => wrB_left hb h, by rw [hw]; simp, rfl, rfl, rfl, fun k hk _ => hold k hk, fun b pl es dc h1 h2 => ⟨es, dc, by rw [List.getElem?_append_left (r.dom _ _ h1)]; exact h2, MapStep.same (r.mp b pl es dc h1 h2) (hold _ (r.mp b pl es dc h1 h2).lt)⟩⟩⟩
  · intro b pl h
    by_cases e : b = H.length
    · subst e; simp
    · rw [Rho.set_other _ _ e] at h
      have := r.dom _ _ h
      simp; omega
  · intro b pl acs bk h1 h2
    obtain ⟨hb, h2⟩ := goc _ _ _ h2
    rw [Rho.set_other _ _ (by omega)] at h1
    have q := r.blk b pl acs bk h1 h2
    exact (q.world (hold _ q.lt)).mono hle
  · intro b b' pl pl' a1 a2 k1 k2 hne h1 h1' h2 h2' hr
    obtain ⟨hb, h2⟩ := goc _ _ _ h2
    obtain ⟨hb', h2'⟩ := goc _ _ _ h2'
    rw [Rho.set_other _ _ (by omega)] at h1 h1'
    exact r.sep b b' pl pl' a1 a2 k1 k2 hne h1 h1' h2 h2' hr
  · intro b pl e1 c1 h1 h2
    rcases gom _ _ _ h2 with ⟨rfl, rfl, rfl⟩ | ⟨hb, h2⟩
    · rw [Rho.set_same] at h1
      cases h1
      exact hm
    · rw [Rho.set_other _ _ (by omega)] at h1
      have q := r.mp b pl e1 c1 h1 h2
      exact (q.world (hold _ q.lt)).mono hle
  · intro b b' pl pl' e1 e2 c1 c2 hne h1 h1' h2 h2'
    rcases gom _ _ _ h2 with ⟨hx, _, _⟩ | ⟨hb, hh⟩
    · rcases gom _ _ _ h2' with ⟨hy, _, _⟩ | ⟨hb', hh'⟩
      · exact absurd (hx.trans hy.symm) hne
      · subst hx
        rw [Rho.set_same] at h1
        cases h1
        rw [Rho.set_other _ _ (by omega)] at h1'
        have := (r.mp b' pl' e2 c2 h1' hh').lt
        simp; omega
    · rw [Rho.set_other _ _ (by omega)] at h1
      rcases gom _ _ _ h2' with ⟨hy, _, _⟩ | ⟨hb', hh'⟩
      · subst hy
        rw [Rho.set_same] at h1'
        cases h1'
        have := (r.mp b pl e1 c1 h1 hh).lt
        simp; omega
      · rw [Rho.set_other _ _ (by omega)] at h1'
        exact r.sepm b b' pl pl' e1 e2 c1 c2 hne h1 h1' hh hh'
  · intro b pl h1 h2
    by_cases e : b = H.length
    · subst e
      rw [Rho.set_same] at h1
      cases h1
      exact ⟨Nat.le_refl _, .inl (Nat.le_refl _)⟩
    · rw [Rho.set_other _ _ e] at h1
      rw [h1] at h2; cases h2

theorem mclone_tied {P : Program} {ρ : Ren} (L : SlLaysW.n5 P ρ) {fn : Func} (hf : P.funcs[ρ.f 5]? = some fn) (nm : (fn.name == "runtime.NumGoroutine") = false) (hb : fn.body.isNone = false) : Tied P mclone.c (ρ.f 5) := by
  refine ⟨?_, ⟨fn, hf, nm, hb⟩⟩
  intro r H w t x H' vs hR hvs hg
  obtain ⟨m, u⟩ := t
  match vs, hvs with
  | [v], ⟨hv, _⟩ =>
    have hv : CRel r (.mp m) v := hv
    have hg : mclone m H = some (x, H') := hg
    cases m with
    | none =>
      have hv : v = .map none := hv
      subst hv
      cases hg
      refine (AnyW.maps_Clone_nil L w).mono ?_
      rintro e w' ⟨rfl, rfl⟩
      exact ⟨_, r, rfl, (rfl : CRel r (.mp none) _), hR, Ext.refl hR⟩
    | some b =>
      obtain ⟨pl, g1, rfl⟩ := hv
      obtain ⟨q, hq, hg⟩ := Option.bind_some_inv (show (H.mpAt b).bind (fun p => some ((some H.length, ()), H ++ [.mp p.1 0])) = some (x, H') from hg)
      cases hg
      have m := hR.mp b pl q.1 q.2 g1 (mpAt_some hq)
      obtain ⟨ents, l, ck, c1, c2, c3, c4⟩ := m.ex
      refine (AnyW.maps_Clone L pl.k ents ck w c1).mono ?_
      rintro e w' ⟨rfl, rfl⟩
      have hle := Rho.le_set ⟨w.heap.size, 0, 0, 0, false⟩ hR.none_of_len
      obtain ⟨r1, r2⟩ := hR.copyMp (es := q.1) (dc := 0) (ents := ents) (ck := ck) ⟨⟨ents, l, ck, by show (w.heap.push _)[w.heap.size]? = _; simp, c2, c3.mono hle, c4⟩, m.sorted⟩
      exact ⟨.map (some w.heap.size), r.set H.length ⟨w.heap.size, 0, 0, 0, false⟩, rfl, (⟨_, Rho.set_same _ _ _, rfl⟩ : CRel (r.set H.length ⟨w.heap.size, 0, 0, 0, false⟩) (.mp (some H.length)) (.map (some w.heap.size))), r1, r2⟩

theorem below_rel {r : Rho} {H : Heap} {w w' : World} (hR : R r H w) (h : Below w.heap.size w w') : R r H w' ∧ Ext r H w r H w' :=
  ⟨hR.world h.block, Rho.le_refl _, Nat.le_refl _, fun b pl h h' => by simp [h] at h', fun _ _ h => h, h.size, h.os, h.tape, h.output, fun j hj _ => h.block j hj, fun b pl es dc h1 h2 => ⟨es, dc, h2, MapStep.same (hR.mp b pl es dc h1 h2) (h.block _ (hR.mp b pl es dc h1 h2).lt)⟩⟩

/-- A row that lies there already. -/
theorem R.adopt {ρ : Rho} {H : Heap} {w w' : World} (r : R ρ H w) (hb : Below w.heap.size w w') {g : Nat} {cur : Array Value} {el : TypeId} {acs : List C} (hg : w.heap.size ≤ g) (hc : w'.heap[g]? = some (.cells cur el (0, 0)))
    (hl : acs.length ≤ cur.size) (hrel : CsRel ρ acs (cur.toList.take acs.length)) :
    R (ρ.set H.length ⟨g, 0, acs.length, cur.size, true⟩) (H ++ [.cells acs .loose]) w' ∧ Ext ρ H w (ρ.set H.length ⟨g, 0, acs.length, cur.size, true⟩) (H ++ [.cells acs .loose]) w' := by
  have hn := r.none_of_len
  have hle := Rho.le_set ⟨g, 0, acs.length, cur.size, true⟩ hn
  refine ⟨⟨?_, ?_, ?_, ?_, ?_⟩, ⟨hle, by simp, ?_, fun b hb h => wrB_left hb h, hb.size, hb.os, hb.tape, hb.output, fun k hk _ => hb.block k hk, fun b pl es dc h1 h2 => ⟨es, dc, by rw [List.getElem?_append_left (r.dom _ _ h1)]; exact h2, MapStep.same (r.mp b pl es dc h1 h2) (hb.block _ (r.mp b pl es dc h1 h2).lt)⟩⟩⟩
  · intro b pl h
    by_cases e : b = H.length
    · subst e; simp
    · rw [Rho.set_other _ _ e] at h
      have := r.dom _ _ h
      simp; omega
  · intro b pl acs' bk' h1 h2
    by_cases e : b = H.length
    · subst e
      rw [Rho.set_same] at h1
      cases h1
      simp at h2
      obtain ⟨rfl, rfl⟩ := h2
      refine ⟨⟨cur.toList, el, (0, 0), by rw [Array.toArray_toList]; exact hc, by simp, by simpa using hrel.mono hle, fun _ j _ h => absurd h (Nat.not_lt_zero _)⟩, rfl, by simpa using hl, fun h => (by cases h), fun _ => rfl⟩
    · rw [Rho.set_other _ _ e] at h1
      have hb' := r.dom _ _ h1
      rw [List.getElem?_append_left hb'] at h2
      have q := r.blk b pl acs' bk' h1 h2
      exact (q.world (hb.block _ q.lt)).mono hle
  · intro b b' pl pl' a1 a2 k1 k2 hne h1 h1' h2 h2' hr
    by_cases e : b = H.length
    · subst e
      rw [Rho.set_same] at h1
      cases h1
      rw [Rho.set_other _ _ (Ne.symm hne)] at h1'
      have hb' := r.dom _ _ h1'
      rw [List.getElem?_append_left hb'] at h2'
      have := (r.blk _ _ _ _ h1' h2').lt
      simp; omega
    · rw [Rho.set_other _ _ e] at h1
      have hb' := r.dom _ _ h1
      rw [List.getElem?_append_left hb'] at h2
      by_cases e' : b' = H.length
      · subst e'
        rw [Rho.set_same] at h1'
        cases h1'
        have := (r.blk _ _ _ _ h1 h2).lt
        simp; omega
      · rw [Rho.set_other _ _ e'] at h1'
        have hb'' := r.dom _ _ h1'
        rw [List.getElem?_append_left hb''] at h2'
        exact r.sep b b' pl pl' a1 a2 k1 k2 hne h1 h1' h2 h2' hr
  · intro b pl es ck h1 h2
    obtain ⟨hb', h2⟩ := mp_left h2
    rw [Rho.set_other _ _ (by omega)] at h1
    have q := r.mp b pl es ck h1 h2
    exact (q.world (hb.block _ q.lt)).mono hle
  · intro b b' pl pl' es es' ck ck' hne h1 h1' h2 h2'
    obtain ⟨hb', h2⟩ := mp_left h2
    obtain ⟨hb'', h2'⟩ := mp_left h2'
    rw [Rho.set_other _ _ (by omega)] at h1 h1'
    exact r.sepm b b' pl pl' es es' ck ck' hne h1 h1' h2 h2'
  · intro b pl h1 h2
    by_cases e : b = H.length
    · subst e
      rw [Rho.set_same] at h1
      cases h1
      exact ⟨Nat.le_refl _, .inl hg⟩
    · rw [Rho.set_other _ _ e] at h1
      rw [h1] at h2; cases h2

theorem sortedKeys_some {x : Ptr × Unit} {H H' : Heap} {y : Sl × Unit} (h : sortedKeys x H = some (y, H')) : ∃ b m ks, x.1 = some (b, 0) ∧ H[b]? = some (.cells [.mp m] .exact) ∧ mkeys H m = some ks ∧ ks.length ≤ 1099511627776 ∧ (∀ k ∈ ks, -9223372036854775808 ≤ k ∧ k ≤ 9223372036854775807) ∧
    ((ks = [] ∧ y = (⟨none, 0, 0⟩, ()) ∧ H' = H) ∨ (ks ≠ [] ∧ y = (⟨some (H.length, 0), ks.length, ks.length⟩, ()) ∧ H' = H ++ [.cells (ks.map (C.int .i64)) .loose])) := by
  unfold sortedKeys at h
  obtain ⟨a, ha, h⟩ := Option.bind_some_inv h
  obtain ⟨h0, h⟩ := cond_some_inv h
  have h0 := of_decide_eq_true h0
  split at h
  · rename_i m hb
    obtain ⟨ks, hk, h⟩ := Option.bind_some_inv h
    unfold keysSl at h
    obtain ⟨h1, h⟩ := cond_some_inv h
    simp only [Bool.and_eq_true, decide_eq_true_eq, List.all_eq_true] at h1
    refine ⟨a.1, m, ks, by rw [ha, ← h0], hb, hk, h1.1, fun k hk => h1.2 k hk, ?_⟩
    by_cases e : ks = []
    · rw [decide_eq_true e, cond_true] at h
      cases h
      exact .inl ⟨e, rfl, rfl⟩
    · rw [decide_eq_false e, cond_false] at h
      cases h
      exact .inr ⟨e, rfl, rfl⟩
  · cases h

theorem sorted_of {ks ss : List Int} (hs : ks.Pairwise (· < ·)) (hp : ss.Perm ks) : (ss.mergeSort fun x y => decide (x ≤ y)) = ks := by
  have h1 : ss.mergeSort leI = ks.mergeSort leI := mergeSort_of_perm_i hp
  have h2 : ks.mergeSort leI = ks := List.mergeSort_of_pairwise (hs.imp fun h => by simp only [leI, decide_eq_true_eq]; omega)
  exact h1.trans h2

set_option maxHeartbeats 1000000 in
theorem sortedKeys_tied {P : Program} {ρ σ : Ren} (L7 : SlLaysZI.n10 P ρ) (L6 : SlLaysZI.n6 P σ) (hsort : ∀ m, AnyZI.SortsIn P σ Fence.wide m) {kt : TypeId} (hkt : ρ.t 26 = kt) (hk : P.underlying kt = some (.int .i64))
    (e9 : ∀ args w, (callFunc (σ.f 9) args).run P w = .ok (.enter (σ.f 9) args) w) (eg : ∀ args w, (callFunc (ρ.f 10) args).run P w = .ok (.enter (ρ.f 10) args) w)
    {fn : Func} (hf : P.funcs[σ.f 6]? = some fn) (nm : (fn.name == "runtime.NumGoroutine") = false) (hb : fn.body.isNone = false) : Tied P (sortedKeys.c (ρ.f 10)) (σ.f 6) := by
  refine ⟨?_, ⟨fn, hf, nm, hb⟩⟩
  intro r H w t x H' vs hR hvs hg
  obtain ⟨p, u⟩ := t
  match vs, hvs with
  | [v], ⟨hv, _⟩ =>
    have hv : CRel r (.clo (ρ.f 10) (Ptrs.list 1 p)) v := hv
    have hg : sortedKeys p H = some (x, H') := hg
    obtain ⟨b, m, ks, h1, h2, h3, h4, h5, h6⟩ := sortedKeys_some hg
    have hl : Ptrs.list 1 p = [some (b, 0)] := by
      show [p.1] = _
      rw [h1]
    rw [hl] at hv
    obtain ⟨caps, rfl, hps⟩ := hv
    match caps, hps with
    | [c], ⟨⟨pl, g1, g2⟩, _⟩ =>
      have q := hR.blk b pl _ _ g1 h2
      obtain ⟨⟨vs, el, fr, f1, f2, f3, _⟩, f5, f6, f7, _⟩ := q
      obtain ⟨f8, f9, _⟩ := f7 rfl
      simp only [List.length_cons, List.length_nil] at f5
      have hv1 : ∃ v0, vs = [v0] := by
        match vs, f2 with
        | [v0], _ => exact ⟨v0, rfl⟩
        | [], h => simp only [List.length_nil] at h; omega
        | _ :: _ :: _, h => simp only [List.length_cons] at h; omega
      obtain ⟨v0, rfl⟩ := hv1
      rw [f8, ← f5] at f3
      have f3 : CRel r (.mp m) v0 := f3.1
      have g2 : c = .pointer (some ⟨pl.k, 0, none⟩) := by rw [g2, f8]; rfl
      subst g2
      have hlt : pl.k < w.heap.size := by
        rcases Nat.lt_or_ge pl.k w.heap.size with h | h
        · exact h
        · rw [Array.getElem?_eq_none h] at f1; cases f1
      have hcell : w.cell? ⟨pl.k, 0, none⟩ = some v0 := by rw [cell?_row f1]; rfl
      have main : ∀ (S : List Int → Prop) (N : Nat), N ≤ 1099511627776 → (∀ ss, S ss → ss.Perm ks) → ks.Pairwise (· < ·) → SeqGives Fence.wide 1 P (ρ.f 10) #[.pointer (some ⟨pl.k, 0, none⟩)] encZ S N w →
          Calls P (σ.f 6) #[.func (.func (ρ.f 10)) #[] #[.pointer (some ⟨pl.k, 0, none⟩)]] w fun e w' => ∃ v ρ', e = .returned v ∧ VRel ρ' (resV [.one (.sl 1)] x) v ∧ R ρ' H' w' ∧ Ext r H w ρ' H' w' := by
        intro S N hN hS hks hseq
        have cS := AnyZI.sorted_in L6 Fence.wide 4 trivial trivial trivial trivial rfl (by omega) (hsort _) e9 (ρ.f 10) #[.pointer (some ⟨pl.k, 0, none⟩)] trivial eg S N (Nat.le_trans hN (by decide)) (by omega) w hseq
        refine (callsIn_wide.1 cS).mono ?_
        rintro e w' ⟨v, ss, rfl, hss, hrow, hnil, hbel⟩
        have hp := hS ss hss
        have hms := sorted_of hks hp
        rw [hms] at hrow
        obtain ⟨q1, q2⟩ := below_rel hR hbel
        rcases h6 with ⟨e1, rfl, rfl⟩ | ⟨e1, rfl, rfl⟩
        · subst e1
          have : ss = [] := hp.eq_nil
          rw [hnil.2 this]
          exact ⟨_, r, rfl, (⟨rfl, rfl, rfl⟩ : CRel r (.sl 1 ⟨none, 0, 0⟩) _), q1, q2⟩
        · rcases hrow.2 with ⟨_, hz⟩ | ⟨g, cap, cur, rfl, d1, d2, d3, d4, d5, d6⟩
          · exact absurd (List.eq_nil_of_length_eq_zero (by rw [← hp.length_eq]; exact hz)) e1
          · have hlen : ss.length = ks.length := hp.length_eq
            rw [Nat.mul_one] at d5 d6
            obtain ⟨r1, r2⟩ := hR.adopt hbel (acs := ks.map (C.int .i64)) d1 d2 (by rw [List.length_map]; omega) (by
              rw [List.length_map, ← hlen, d6]
              exact ints_rel ks)
            refine ⟨_, _, rfl, (⟨_, ⟨g, 0, none⟩, cap, Rho.set_same _ _ _, by rw [hlen], rfl, rfl, Nat.le_refl _, by simp, .inl ⟨rfl, by omega, .inr ⟨rfl, by simp⟩, by simp; omega⟩⟩ : CRel _ (.sl 1 ⟨some (H.length, 0), ks.length, ks.length⟩) _), r1, r2⟩
      cases m with
      | none =>
        have f3 : v0 = .map none := f3
        subst f3
        cases h3
        exact main _ 0 (by omega) (fun ss h => by rw [h]) List.Pairwise.nil (AnyZI.keys_gives_nil L7 Fence.wide 1 trivial rfl pl.k w hlt hcell)
      | some bb =>
        obtain ⟨pl', g3, rfl⟩ := f3
        obtain ⟨q, hq, h3⟩ := Option.bind_some_inv (show (H.mpAt bb).bind (fun p => some (p.1.map Prod.fst)) = some ks from h3)
        cases h3
        have mm := hR.mp bb pl' q.1 q.2 g3 (mpAt_some hq)
        obtain ⟨ents, l, ck, c1, c2, c3, c4, c5⟩ := mm.ex
        let Rd : Value → Option (DataW Unit × List MemPlace) := fun _ => some (.nil, [])
        have hrd : ∀ z ∈ ents.toList, ∃ n : Int, z.key = .int .i64 n ∧ Go.WideElems.rd P kt Rd z = some (.int .i64 n, .nil) := by
          intro z hz
          obtain ⟨xe, hx1, hx2, _⟩ := c3.mem z (c2.subset hz)
          refine ⟨xe.1, hx2, ?_⟩
          have hw := h5 xe.1 (List.mem_map.2 ⟨xe, hx1, rfl⟩)
          unfold Go.WideElems.rd
          rw [hx2, keyOf_int_mk hk (a := xe.1) (by
            show (decide (IntKind.min .i64 ≤ xe.1) && decide (xe.1 ≤ IntKind.max .i64)) = true
            have e1 : IntKind.min .i64 = -9223372036854775808 := by decide
            have e2 : IntKind.max .i64 = 9223372036854775807 := by decide
            rw [e1, e2, decide_eq_true hw.1, decide_eq_true hw.2]; rfl)]
          rfl
        have hkeys : ents.toList.map (fun z => keyI z.key) = (ents.toList.map (Go.WideElems.rg P kt Rd)).map fun p => Go.intOf p.1 := by
          rw [List.map_map]
          refine List.map_congr_left fun z hz => ?_
          obtain ⟨n, z1, z2⟩ := hrd z hz
          show keyI z.key = Go.intOf (Go.WideElems.rg P kt Rd z).1
          rw [z1, Go.WideElems.rg_of z2]; rfl
        have hD : intKeys (.map ((ents.toList.map (Go.WideElems.rg P kt Rd)).foldr DataW.insert []) : DataW Unit) = ((ents.toList.map (Go.WideElems.rg P kt Rd)).foldr DataW.insert []).map fun p => Go.intOf p.1 := rfl
        have hperm : (intKeys (.map ((ents.toList.map (Go.WideElems.rg P kt Rd)).foldr DataW.insert []) : DataW Unit)).Perm (q.1.map Prod.fst) := by
          rw [hD]
          refine ((Go.WideShapes.sorted_perm _).map _).trans ?_
          rw [← hkeys, c3.keys]
          exact c2.map _
        have hsz : ents.size = q.1.length := by rw [c3.length, ← c2.length_eq]; simp
        have hown : w.ownsMap P (ρ.t 26) Rd pl'.k ents.size (.map ((ents.toList.map (Go.WideElems.rg P kt Rd)).foldr DataW.insert [])) := by
          rw [hkt]
          refine ⟨ents, ck, c1, ⟨?_, ⟨fun z hz => c5 z (c2.subset hz), ?_, ?_⟩, fun z hz => ?_⟩, Nat.le_refl _, rfl⟩
          · rw [hsz]; rw [List.length_map] at h4; exact Nat.le_trans h4 (by decide)
          · exact List.pairwise_map.2 ((c2.pairwise_iff (fun h hh => h hh.symm)).2 c4)
          · exact List.pairwise_map.2 ((c2.pairwise_iff (fun h hh => h hh.symm)).2 (mm.keys c3))
          · obtain ⟨n, _, z2⟩ := hrd z hz
            exact ⟨_, z2⟩
        have hsize : Maps.size (.map ((ents.toList.map (Go.WideElems.rg P kt Rd)).foldr DataW.insert []) : DataW Unit) ≤ 1099511627776 := by
          show ((ents.toList.map (Go.WideElems.rg P kt Rd)).foldr DataW.insert []).length ≤ _
          rw [(Go.WideShapes.sorted_perm _).length_eq, List.length_map, Array.length_toList, hsz]
          rw [List.length_map] at h4; exact h4
        exact main _ _ hsize (fun ss h => h.trans hperm) (List.pairwise_map.2 mm.sorted) (AnyZI.keys_gives L7 Fence.wide 1 trivial rfl (by omega) pl.k pl'.k ents.size _ w hlt hcell hown)
end Ev
