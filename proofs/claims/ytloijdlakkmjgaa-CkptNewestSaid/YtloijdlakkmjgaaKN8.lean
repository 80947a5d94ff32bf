/- SLaw14s SCkptW SLaw14f SLaw14a SLaw14c -/
import Derived.Test.YtloijdlakkmjgaaKN7
import Derived.Test.YtloijdlakkmjgaaKN3
import Derived.Test.YtloijdlakkmjgaaKN4
import Derived.Test.YtloijdlakkmjgaaGLaw14
/- Chapter 14: pages that are written one behind the other, with whatever tags and texts. -/
namespace Ev
open Go (IntKind)

theorem opened_nx {e : LfA} {v v1 : Wr} {r : Bool} {b : Nat} (h : Opened e v r v1) (n : Nxt e v b) : r = true ∧ v1 = v.opn b := by
  rcases h with ⟨h1, hr, rfl⟩ | ⟨h1, hr, c, hc, hf, hm, rfl⟩ | ⟨h1, _, h2, _⟩
  · exact ⟨hr, by unfold Wr.opn; rw [if_neg (by omega)]⟩
  · rcases n with n | ⟨_, hb, hbf, hbm⟩
    · omega
    · have hcb : c = b := by
        have h2 := hm b hb hbf
        have h3 := hbm c hc hf
        by_cases hlt : c < b
        · have := h3.2 hlt; omega
        · by_cases hgt : b < c
          · have := h2.2 hgt; omega
          · omega
      exact ⟨hr, by unfold Wr.opn; rw [if_pos h1, hcb]⟩
  · rcases n with n | ⟨_, hb, hbf, _⟩
    · omega
    · exact absurd hbf (h2 b hb)
theorem at_inj {P b q b' q' : Nat} (hq : q < P) (hq' : q' < P) (h : b * P + q = b' * P + q') : b = b' ∧ q = q' := by
  have h1 := divP b q P hq
  have h2 := divP b' q' P hq'
  rw [h] at h1
  omega
theorem room_in {b q P B k : Nat} (hk : k = b * P + q) (h : k < B * P) : b < B := by
  by_cases hb : b < B
  · exact hb
  · have := Nat.mul_le_mul_right P (show B ≤ b by omega)
    omega

abbrev Pg := Tg × Bytes
structure OnL (a : NdA) (s : Nd) (v : Wr) (d : Int) (cs : List Cut) (L : List Pg) : Prop where
  off : s.off = false
  did : s.did = d + (L.length : Int)
  cuts : s.cuts = cs
  fails : s.fails = []
  dead : ∀ i, s.dead i = false
  fll : ∃ b q, FllV a v b q ∧ L.length = b * a.P + q
  std : ∀ b q, q < a.P → ∀ y, L[b * a.P + q]? = some y → s.pages b q = frameB a (y.1.worn 0) y.2
  emp : ∀ b q, q < a.P → L.length ≤ b * a.P + q → s.pages b q = []
/-- The power failed in the page behind those. -/
structure TornL (a : NdA) (s : Nd) (L : List Pg) (T : Bytes) : Prop where
  std : ∀ b q, q < a.P → ∀ y, L[b * a.P + q]? = some y → s.pages b q = frameB a (y.1.worn 0) y.2
  torn : ∀ b q, q < a.P → b * a.P + q = L.length → s.pages b q = if T = fullP a then [] else T
  emp : ∀ b q, q < a.P → L.length < b * a.P + q → s.pages b q = []
section
variable {N : Nat → Prop} {H : Heap} {z : WrA} {a : NdA} {e : LfA} {s : Nd} {v : Wr} {sb : Sl} {D d : Int} {cs : List Cut} {L : List Pg}
/-- One page more. -/
theorem onl_app (h : WrAt N H z a e s v sb) (o : OnL a s v d cs L) (hk : L.length < a.B * a.P) (w : Wf a s D) (hD : D + 100 ≤ 1000000) {t : Tg} {x : Bytes} (ht : tagOK (t.worn 0) = true) (hseq : 0 ≤ t.2.1 ∧ t.2.1 < 18446744073709551616) (hx : x.length ≤ a.S) :
    ∃ H' p er s' v' sb', write_Writer_Append (some (z.w, 0)) t x H = some ((p, er, ()), H') ∧ WrAt N H' z a e s' v' sb' ∧ Keep (fun k => ¬ N k) H H' ∧ Wf a s' (D + 1) ∧
      ((s.cutNow = none ∧ er = 0 ∧ p = (L.length : Int) ∧ OnL a s' v' d cs (L ++ [(t, x)])) ∨ (∃ y, s.cutNow = some y ∧ er = 51 ∧ TornL a s' L (tornB y (frameB a (t.worn 0) x)))) := by
  obtain ⟨eB, eP⟩ := h.eB
  have hsz := w.sz
  obtain ⟨b, q, f, hbq⟩ := o.fll
  have hq := f.q
  have hb : b < a.B := room_in hbq hk
  obtain ⟨n1, n2, n3, n4, n5, n6⟩ := f.nxt eB hb
  have hemp : ∀ q', (v.opn b).lf.nx ≤ q' → q' < a.P → s.pages b q' = [] := fun q' h1 h2 => o.emp b q' h2 (by omega)
  have h0 : s.inE a (b : Int) ((v.opn b).lf.nx : Int) = 0 := inE_yes o.off hb (by omega)
  have hdl := dataOf_length hx
  have hww : (v.opn b).worn b = 0 := by rw [n5]; exact f.worn b
  have hsl := spareOf_length (t.worn ((v.opn b).worn b)) x a.S
  have htry : tryW a s t x (v.opn b) b = s.program a b (v.opn b).lf.nx (frameB a (t.worn 0) x) := by
    unfold tryW Nd.progT
    rw [if_neg (by rw [h0]; simp), if_neg (by rw [hdl, hsl]; omega), Int.toNat_natCast, Int.toNat_natCast, used_false hemp, hww]
    simp only [Bool.false_eq_true, if_false]
    rfl
  have hwp : Wf a (tryW a s t x (v.opn b) b).2 (D + 1) := (w.progT (by omega) (b : Int) ((v.opn b).lf.nx : Int) (dataOf x a.S) (spareOf (t.worn ((v.opn b).worn b)) x a.S)).1
  have hlay : ∀ T, ∀ k r, ¬ (k = b ∧ r = q) → (s.acted.lay a b (v.opn b).lf.nx T).pages k r = s.pages k r := fun T k r hne => by
    rw [lay_there (by rw [n2]; exact hne)]; rfl
  obtain ⟨H', p, er, s', v', sb', r1, r2, r3, r4, r5⟩ := write_Append_run (J := fun s' v' => s' = s ∧ v' = v) (Q := fun s' v' p er => Wf a s' (D + 1) ∧ ((s.cutNow = none ∧ er = 0 ∧ p = (L.length : Int) ∧ OnL a s' v' d cs (L ++ [(t, x)])) ∨ (∃ y, s.cutNow = some y ∧ er = 51 ∧ TornL a s' L (tornB y (frameB a (t.worn 0) x))))) (fun _ _ => 0) h ht hseq hx (by omega)
    ⟨rfl, rfl⟩ (by
      rintro s' v' ⟨rfl, rfl⟩
      refine ⟨⟨D, w, by omega⟩, by rw [f.bad]; decide, fun r v1 op => ?_⟩
      obtain ⟨rfl, rfl⟩ := opened_nx op n1
      refine ⟨fun hh => (by cases hh), fun _ => ⟨b, by omega, n3, by omega, by rw [hww]; exact ht, ?_⟩⟩
      cases hcn : s'.cutNow with
      | some y =>
        have hp : tryW a s' t x (v'.opn b) b = (51, s'.acted.lay a b (v'.opn b).lf.nx (tornB y (frameB a (t.worn 0) x))) := by
          rw [htry]
          unfold Nd.program
          rw [hcn]
        rw [hp] at hwp ⊢
        refine ⟨fun hh => (by cases hh), fun hh => (by cases hh), fun hh => (by cases hh), fun _ _ _ => ⟨hwp, .inr ⟨y, rfl, rfl, fun b1 q1 hq1 u hu => ?_, fun b1 q1 hq1 he => ?_, fun b1 q1 hq1 hlt => ?_⟩⟩⟩
        · rw [hlay _ b1 q1 (fun ⟨e1, e2⟩ => by
            subst e1; subst e2
            rw [← hbq] at hu
            simp at hu)]
          exact o.std b1 q1 hq1 u hu
        · obtain ⟨rfl, rfl⟩ := at_inj hq1 hq (he.trans hbq)
          unfold Nd.lay upd2
          simp only
          rw [if_pos ⟨trivial, n2.symm⟩]
        · rw [hlay _ b1 q1 (fun ⟨e1, e2⟩ => by subst e1; subst e2; omega)]
          exact o.emp b1 q1 hq1 (by omega)
      | none =>
        have hp : tryW a s' t x (v'.opn b) b = (0, s'.acted.lay a b (v'.opn b).lf.nx (frameB a (t.worn 0) x)) := by
          rw [htry]
          exact program_ok hcn (o.dead b) (failNow_nil o.fails)
        rw [hp] at hwp ⊢
        refine ⟨fun _ => ⟨hwp, .inl ⟨rfl, rfl, by rw [n2, hbq], ?_⟩⟩, fun hh => (by cases hh), fun hh => (by cases hh), fun hh => absurd rfl hh⟩
        refine ⟨?_, ?_, o.cuts, o.fails, o.dead, ⟨_, _, f.step eB eP hb, by rw [List.length_append]; exact next_at hbq hq⟩, fun b1 q1 hq1 u hu => ?_, fun b1 q1 hq1 hle => ?_⟩
        · show (s'.off || s'.cutNow.isSome) = false
          rw [hcn, o.off]; rfl
        · show s'.did + 1 = _
          rw [o.did, List.length_append]
          show _ = d + ((L.length + 1 : Nat) : Int)
          omega
        · by_cases he : b1 = b ∧ q1 = q
          · obtain ⟨rfl, rfl⟩ := he
            have := lay_here (a := a) (s := s'.acted) (b := b1) (p := (v'.opn b1).lf.nx) (t := t.worn 0) hx
            rw [n2] at this ⊢
            rw [← hbq] at hu
            simp at hu
            rw [this, ← hu]
          · rw [hlay _ b1 q1 he]
            by_cases heq : b1 * a.P + q1 = L.length
            · exact absurd (at_inj hq1 hq (heq.trans hbq)) he
            · refine o.std b1 q1 hq1 u ?_
              by_cases hlt : b1 * a.P + q1 < L.length
              · rwa [List.getElem?_append_left hlt] at hu
              · rw [List.getElem?_eq_none (by simp; omega)] at hu; cases hu
        · rw [List.length_append] at hle
          have hle' : L.length + 1 ≤ b1 * a.P + q1 := hle
          by_cases he : b1 = b ∧ q1 = q
          · obtain ⟨rfl, rfl⟩ := he
            omega
          · rw [hlay _ b1 q1 he]
            exact o.emp b1 q1 hq1 (by omega))
  exact ⟨H', p, er, s', v', sb', r1, r2, r3, r4, r5⟩
end
theorem OnL.new (a : NdA) (hP : 0 < a.P) : OnL a (Nd.new [] [] []) Wr.new 0 [] [] :=
  ⟨rfl, rfl, rfl, rfl, fun i => (by show decide ((i : Int) ∈ ([] : List Int)) = false; simp), ⟨0, 0, FllV.new a hP, by simp⟩, fun b q _ y h => by simp at h, fun _ _ _ _ => rfl⟩
theorem OnL.cutNow {a : NdA} {s : Nd} {v : Wr} {d : Int} {L : List Pg} (o : OnL a s v d [] L) : s.cutNow = none := by
  unfold Nd.cutNow; rw [o.cuts]; rfl
/-- An erased page is not read. -/
theorem read_emp {a : NdA} {s : Nd} {b q : Nat} (hq : q < a.P) (hp : s.pages b q = []) : ∃ er, readW a s (b * a.P + q) = (tag0, [], er, ()) ∧ er ≠ 0 := by
  obtain ⟨e1, e2⟩ := divP b q a.P hq
  unfold readW
  rw [e1, e2]
  by_cases h0 : (s.readT a (b : Int) (q : Int)).2.2.1 = 0
  · rw [if_pos h0]
    have hr : s.readT a (b : Int) (q : Int) = ((fullP a).take a.S, (fullP a).drop a.S, 0, ()) := by
      unfold Nd.readT at h0 ⊢
      split
      · rename_i h1
        rw [if_pos h1] at h0
        exact absurd h0 h1
      · unfold Nd.read
        rw [Int.toNat_natCast, Int.toNat_natCast, if_pos hp]
    have hl : (lookP (s.readT a (b : Int) (q : Int)).1 (s.readT a (b : Int) (q : Int)).2.1).1 ≠ 1 := by
      rw [hr]
      have hc : viewB a (fullP a) = (0, tag0, [], ()) := view_full a
      have : lookP ((fullP a).take a.S) ((fullP a).drop a.S) = (0, tag0, [], ()) := hc
      rw [this]; decide
    rw [if_neg hl]
    exact ⟨3, rfl, by decide⟩
  · rw [if_neg h0]
    exact ⟨_, rfl, h0⟩
end Ev

/- Checkpoints: records are written as pages that belong together. -/
namespace Ev
open Go (IntKind)

def seqW (K : Int) (q i : Nat) : Nat := if K = 3 then q else q + i
def tagW (K : Int) (q n i : Nat) : Tg := (K, (seqW K q i : Int), (i : Int), (n : Int), 0, ())
def pgsW (K : Int) (q : Nat) (T : List Bytes) (m : Nat) : List Pg := (List.range m).map fun i => (tagW K q T.length i, T.getD i [])
theorem pgsW_len (K : Int) (q : Nat) (T : List Bytes) (m : Nat) : (pgsW K q T m).length = m := by simp [pgsW]
theorem pgsW_succ (K : Int) (q : Nat) (T : List Bytes) (m : Nat) : pgsW K q T (m + 1) = pgsW K q T m ++ [(tagW K q T.length m, T.getD m [])] := by simp [pgsW, List.range_succ]
theorem pgsW_get (K : Int) (q : Nat) (T : List Bytes) {m i : Nat} (h : i < m) : (pgsW K q T m)[i]? = some (tagW K q T.length i, T.getD i []) := by simp [pgsW, h]
theorem tagW_ok {K : Int} (hK : K = 2 ∨ K = 3) {q n i : Nat} (hi : i < n) (hn : n < 60000) : tagOK ((tagW K q n i).worn 0) = true := by
  refine decide_eq_true ?_
  show 1 ≤ K ∧ K ≤ 3 ∧ 1 ≤ (n : Int) ∧ (n : Int) < 65536 ∧ 0 ≤ (i : Int) ∧ (i : Int) < (n : Int) ∧ 0 ≤ (0 : Int) ∧ (0 : Int) < 4294967296
  omega
def ints (b n : Nat) : List Int := (List.range n).map fun i => ((b + i : Nat) : Int)
theorem ints_succ (b n : Nat) : intC (ints b (n + 1)) = intC (ints b n) ++ [.int .i64 ((b + n : Nat) : Int)] := by simp [ints, intC, List.range_succ]
theorem ints_len (b n : Nat) : (ints b n).length = n := by simp [ints]
section
variable {N : Nat → Prop} {H : Heap} {z : WrA} {a : NdA} {e : LfA} {s : Nd} {v : Wr} {sb : Sl} {D d : Int} {cs : List Cut} {L0 : List Pg}
/-- Blocks that are new are not the writer's. -/
theorem WrAt.grow (h : WrAt N H z a e s v sb) {F : Nat → Prop} {G : Heap} (k : Keep F H G) (hF : ∀ j, F j → j < H.length → N j) : WrAt (fun j => N j ∨ (H.length ≤ j ∧ j < G.length)) G z a e s v sb := by
  have h1 : WrAt N G z a e s v sb := h.keep (F := fun j => F j ∧ j < H.length) ⟨k.len, fun j hj hf => k.same j hj fun x => hf ⟨x, hj⟩⟩ fun j hj hf => h.nN j hj (hF j hf.1 hf.2)
  refine h1.more (fun j hj hm => ?_) (fun j hm => ?_)
  · rcases hm with hm | hm
    · exact h.nN j hj hm
    · have := h.lt hj; omega
  · rcases hm with hm | hm
    · have := h.NL j hm
      have := k.len
      omega
    · exact hm.2
structure CW (N : Nat → Prop) (H : Heap) (z : WrA) (a : NdA) (e : LfA) (d : Int) (cs : List Cut) (D : Int) (L : List Pg) (R : Heap) (M : Nat → Prop) (s : Nd) (v : Wr) (sb : Sl) : Prop where
  w : WrAt M R z a e s v sb
  sub : ∀ k, N k → M k
  keep : Keep (fun k => ¬ N k) H R
  on : OnL a s v d cs L
  wf : Wf a s D
theorem write_all {size : Nat} {sl : Sl} {recs : List RecT} (h : WrAt N H z a e s v sb) (o : OnL a s v d cs L0) (w : Wf a s D) (hD : D + 200 ≤ 1000000) (hs : Row H 6 sl (rowsR recs)) (hr : recs.length ≤ 30) (hS : 40 ≤ size ∧ size ≤ a.S ∧ a.S ≤ 1000) {K : Int} (hK : K = 2 ∨ K = 3) {q : Nat} (hq : q < 4294967296) (hroom : L0.length + (packF size recs).length ≤ a.B * a.P) :
    ∃ ps sq er G M s' v' sb', ckpt_Write (some (z.w, 0)) sl K (q : Int) (size : Int) H = some ((ps, sq, er, ()), G) ∧ WrAt M G z a e s' v' sb' ∧ (∀ k, N k → M k) ∧ Keep (fun k => ¬ N k) H G ∧ Wf a s' (D + 30) ∧
      ((er = 0 ∧ sq = (((if K = 3 then q + 1 else q + (packF size recs).length : Nat)) : Int) ∧ ps.len = (packF size recs).length ∧ Row G 1 ps (intC (ints L0.length (packF size recs).length)) ∧ (∀ b o, ps.p = some (b, o) → M b) ∧ OnL a s' v' d cs (L0 ++ pgsW K q (packF size recs) (packF size recs).length) ∧ ∀ i : Nat, i < (packF size recs).length → (cs.find? fun x => x.1 == d + (L0.length : Int) + (i : Int) + 1) = none) ∨
       (er = 51 ∧ ∃ m y, m < (packF size recs).length ∧ (cs.find? fun x => x.1 == d + (L0.length : Int) + (m : Int) + 1) = some y ∧ TornL a s' (L0 ++ pgsW K q (packF size recs) m) (tornB y (frameB a ((tagW K q (packF size recs).length m).worn 0) ((packF size recs).getD m []))))) := by
  obtain ⟨t, G0, p1, p2⟩ := pack_eq hs (by omega) ⟨hS.1, by omega⟩
  obtain ⟨hT1, hT2, hT3⟩ := packF_ok size hS.1 recs
  generalize hT : packF size recs = T at *
  have hTl : T.length ≤ 30 := by omega
  have ht := p2.row.txt_len
  have w0 := h.grow p2.keep fun _ h => h.elim
  unfold ckpt_Write
  have hfind : ∀ (s' : Nd) (v' : Wr) (L : List Pg), OnL a s' v' d cs L → s'.cutNow = cs.find? fun x => x.1 == d + (L.length : Int) + 1 := fun s' v' L o' => by
    unfold Nd.cutNow; rw [o'.cuts, o'.did]
  obtain ⟨u, G, l1, l2⟩ := loop_rise (step := ckpt_Write.s1 (some (z.w, 0)) K ((t, ()), G0)) T.length
    (fun i y R => ∃ ps M s' v' sb', y = ((seqW K q i : Int), ps, (i : Int), ()) ∧ CW N H z a e d cs (D + i) (L0 ++ pgsW K q T i) R M s' v' sb' ∧ Row R 1 t (T.map C.str) ∧ (∀ b o, t.p = some (b, o) → M b) ∧ GrowN [] R 1 ps (intC (ints L0.length i)) ∧ (∀ b o, ps.p = some (b, o) → M b ∧ G0.length ≤ b) ∧ G0.length ≤ R.length ∧ ∀ j : Nat, j < i → (cs.find? fun x => x.1 == d + (L0.length : Int) + (j : Int) + 1) = none)
    (fun y G => ∃ M s' v' sb', WrAt M G z a e s' v' sb' ∧ (∀ k, N k → M k) ∧ Keep (fun k => ¬ N k) H G ∧ Wf a s' (D + 30) ∧
      ((∃ ps, y = .inl ((seqW K q T.length : Int), ps, ()) ∧ ps.len = T.length ∧ Row G 1 ps (intC (ints L0.length T.length)) ∧ (∀ b o, ps.p = some (b, o) → M b) ∧ OnL a s' v' d cs (L0 ++ pgsW K q T T.length) ∧ ∀ i : Nat, i < T.length → (cs.find? fun x => x.1 == d + (L0.length : Int) + (i : Int) + 1) = none) ∨
       (∃ sq, y = .inr (⟨none, 0, 0⟩, sq, 51, ()) ∧ ∃ m x, m < T.length ∧ (cs.find? fun x => x.1 == d + (L0.length : Int) + (m : Int) + 1) = some x ∧ TornL a s' (L0 ++ pgsW K q T m) (tornB x (frameB a ((tagW K q T.length m).worn 0) (T.getD m []))))))
    (by
      rintro i _ R hi ⟨ps, M, s', v', sb', rfl, cw, rt, tM, gp, psM, hGR, hno⟩
      obtain ⟨b, oo, a1, a2, _⟩ := rt.txt (i := i) hi
      have hg : T.getD i [] = T[i] := by simp [List.getD, hi]
      have hx : T[i].length ≤ a.S := Nat.le_trans (hT3 _ (List.getElem_mem hi)) hS.2.1
      have hsq : seqW K q i < 8589934592 := by unfold seqW; split <;> omega
      obtain ⟨R1, p, er, s2, v2, sb2, c1, c2, c3, c4, c5⟩ := onl_app (t := tagW K q T.length i) (x := T[i]) cw.w cw.on (by rw [List.length_append, pgsW_len]; omega) cw.wf (by omega) (tagW_ok hK hi (by omega)) (by show 0 ≤ (seqW K q i : Int) ∧ (seqW K q i : Int) < 18446744073709551616; omega) hx
      have hlen : decide ((i : Int) < (t.len : Int)) = true := decide_eq_true (by rw [ht]; omega)
      have hsu := wrap_succ (show i < 9223372036854775807 by omega)
      have hwq : IntKind.wrap .u64 ((seqW K q i : Int) + 1) = ((seqW K q i + 1 : Nat) : Int) := by rw [wrap_u64]; omega
      have c1' : write_Writer_Append (some (z.w, 0)) (K, (seqW K q i : Int), (i : Int), (t.len : Int), 0, ()) T[i] R = some ((p, er, ()), R1) := by rw [ht]; exact c1
      have hLl : (L0 ++ pgsW K q T i).length = L0.length + i := by rw [List.length_append, pgsW_len]
      have kN : Keep (fun k => ¬ N k) H R1 := cw.keep.trans (c3.mono fun k hk hn => hk (cw.sub k hn))
      rcases c5 with ⟨n1, rfl, rfl, n4⟩ | ⟨y, n1, rfl, n3⟩
      · refine .inl ?_
        have gp1 := gp.stay (G' := R1) c3 fun j hj hlt => ⟨Nat.zero_le _, fun a' ha' e' => hj (by rw [← e']; exact (psM a'.1 a'.2 (by rw [ha'])).1)⟩
        have hpl : ps.len = i := by
          have := gp.gr.len
          simp [intC, ints_len] at this; omega
        obtain ⟨ps', R2, b1, b2, b3, b4, b5, b6, b7, b8⟩ := gp1.one (bytes := 8) (new := [.int .i64 ((L0 ++ pgsW K q T i).length : Int)]) (by decide) rfl (by omega) (by omega)
        have w2 := c2.grow b5 fun j ⟨o', ho'⟩ _ => (psM j o' ho').1
        refine ⟨((seqW K q (i + 1) : Int), ps', ((i + 1 : Nat) : Int), ()), R2, ?_, ps', _, s2, v2, sb2, rfl, ⟨w2, fun k hk => .inl (cw.sub k hk), ?_, ?_, ?_⟩, ?_, fun b o ho => .inl (tM b o ho), ?_, ?_, ?_, ?_⟩
        · unfold ckpt_Write.s1
          simp only [hlen, cond_t, a1, bind_some, a2, c1', decide_true, Bool.not_true, cond_f, b1, b2, hwq, hsu]
          by_cases hk : K = 3
          · have : seqW K q (i + 1) = seqW K q i := by unfold seqW; rw [if_pos hk, if_pos hk]
            simp only [decide_eq_true hk, Bool.not_true, cond_f, this]
          · have : seqW K q (i + 1) = seqW K q i + 1 := by unfold seqW; rw [if_neg hk, if_neg hk]; omega
            simp only [decide_eq_false hk, Bool.not_false, cond_t, this]
        · exact kN.trans (b5.mono fun k ⟨o', ho'⟩ hn => by
            have h1 := (psM k o' ho').2
            have h2 := h.NL k hn
            have h3 := p2.keep.len
            omega)
        · rw [pgsW_succ, ← List.append_assoc, hg]; exact n4
        · exact c4.le (by omega) (by omega)
        · refine (rt.keep c3 fun b o ho hn => hn (tM b o ho)).keep b5 fun b o ho ⟨o', ho'⟩ => ?_
          have h1 := (psM b o' ho').2
          have h2 := p2.gr.lt ho
          simp only at h2
          omega
        · rw [ints_succ]
          rw [hLl] at b3
          exact b3
        · intro b o ho
          rw [b7] at ho
          have hb : b6 = b := by cases ho; rfl
          subst hb
          have := b3.gr.lt b7
          have hH := c3.len
          exact ⟨.inr ⟨by omega, this⟩, by omega⟩
        · have h1 := c3.len
          have h2 := b5.len
          omega
        · intro j hj
          by_cases hji : j = i
          · subst hji
            rw [hfind _ _ _ cw.on, hLl] at n1
            rw [← n1]
            congr 1
            funext x
            congr 1
            omega
          · exact hno j (by omega)
      · refine .inr ⟨.inr (⟨none, 0, 0⟩, ((seqW K q i + 1 : Nat) : Int), 51, ()), R1, ?_, M, s2, v2, sb2, c2, cw.sub, kN, c4.le (by omega) (by omega), .inr ⟨_, rfl, i, y, hi, ?_, ?_⟩⟩
        · unfold ckpt_Write.s1
          simp only [hlen, cond_t, a1, bind_some, a2, c1', decide_eq_false (show ¬ (51 : Int) = 0 by decide), Bool.not_false, hwq]
        · rw [hfind _ _ _ cw.on, hLl] at n1
          rw [← n1]
          congr 1
          funext x
          congr 1
          omega
        · rw [hg]; exact n3)
    (by
      rintro _ R ⟨ps, M, s', v', sb', rfl, cw, rt, tM, gp, psM, hGR, hno⟩
      have hpl : ps.len = T.length := by
        have := gp.gr.len
        simp [intC, ints_len] at this; omega
      refine ⟨.inl ((seqW K q T.length : Int), ps, ()), R, ?_, M, s', v', sb', cw.w, cw.sub, cw.keep, cw.wf.le (by omega) (by omega), .inl ⟨ps, rfl, hpl, gp.row, fun b o ho => (psM b o ho).1, cw.on, hno⟩⟩
      unfold ckpt_Write.s1
      simp only [decide_eq_false (show ¬ ((T.length : Nat) : Int) < (t.len : Int) by rw [ht]; omega), cond_f])
    (y := ((seqW K q 0 : Int), ⟨none, 0, 0⟩, ((0 : Nat) : Int), ())) (H := G0)
    ⟨⟨none, 0, 0⟩, _, s, v, sb, rfl, ⟨w0, fun k hk => .inl hk, p2.keep.mono fun _ h => h.elim, by simpa [pgsW] using o, w.le (by omega) (by omega)⟩, p2.row, fun b o ho => .inr ⟨p2.new _ ho, p2.gr.lt ho⟩, GrowN.ni ⟨Nat.zero_le _, fun j hj => by simp at hj⟩ 1, fun b o ho => (by cases ho), Nat.le_refl _, fun j hj => by omega⟩
  obtain ⟨M, s', v', sb', m1, m2, m3, m4, m5⟩ := l2
  have l1' : loopW (ckpt_Write.s1 (some (z.w, 0)) K ((t, ()), G0)) ((q : Int), ⟨none, 0, 0⟩, 0, ()) G0 = some (u, G) := by
    have : seqW K q 0 = q := by unfold seqW; split <;> omega
    rw [this] at l1
    exact l1
  rcases m5 with ⟨ps, rfl, j1, j2, j3, j4, j5⟩ | ⟨sq, rfl, m, x, j1, j2, j3⟩
  · refine ⟨ps, _, 0, G, M, s', v', sb', ?_, m1, m2, m3, m4, .inl ⟨rfl, rfl, j1, j2, j3, j4, j5⟩⟩
    by_cases hk : K = 3
    · have hw : IntKind.wrap .u64 ((seqW K q T.length : Int) + 1) = ((q + 1 : Nat) : Int) := by unfold seqW; rw [if_pos hk, wrap_u64]; omega
      simp only [p1, bind_some, l1', sum0, decide_eq_true hk, cond_t, hw, if_pos hk]
    · have hw : seqW K q T.length = q + T.length := by unfold seqW; rw [if_neg hk]
      simp only [p1, bind_some, l1', sum0, decide_eq_false hk, cond_f, hw, if_neg hk]
  · refine ⟨⟨none, 0, 0⟩, sq, 51, G, M, s', v', sb', ?_, m1, m2, m3, m4, .inr ⟨rfl, m, x, j1, j2, j3⟩⟩
    simp only [p1, bind_some, l1', sum1]
end
end Ev

/- Chapter 14: all pages are read. -/
namespace Ev
open Go (IntKind)

def foundF (j : Nat) (r : Tg × Bytes × Int × Unit) : F8 := if r.2.2.1 = 0 then ((j : Int), 1, r.1.1, r.1.2.1, r.1.2.2.1, r.1.2.2.2.1, r.1.2.2.2.2.1, r.2.1, ()) else ((j : Int), 0, 0, 0, 0, 0, 0, [], ())
section
variable {N : Nat → Prop} {H : Heap} {z : WrA} {a : NdA} {e : LfA} {s : Nd} {v : Wr} {sb : Sl} {D : Int}
theorem rowsF_one (L : List F8) (x : F8) : rowsF (L ++ [x]) = rowsF L ++ fC x := by unfold rowsF; simp
theorem foundall_eq (h : WrAt N H z a e s v sb) (w : Wf a s D) {n : Nat} (hn : n ≤ 1000) :
    ∃ t G M, law14_found (some (z.w, 0)) (n : Int) H = some ((t, ()), G) ∧ WrAt M G z a e s v sb ∧ (∀ k, N k → M k) ∧ Keep (fun _ => False) H G ∧ Row G 8 t (rowsF ((List.range n).map fun j => foundF j (readW a s j))) ∧ ∀ b o, t.p = some (b, o) → M b := by
  unfold law14_found
  obtain ⟨u, G, l1, t, M, rfl, m1, m2, m3, m4, m5⟩ := loop_rise (step := law14_found.s1 (some (z.w, 0)) (n : Int)) n
    (fun i y R => ∃ t M, y = (t, (i : Int), ()) ∧ WrAt M R z a e s v sb ∧ (∀ k, N k → M k) ∧ GrowN H R 8 t (rowsF ((List.range i).map fun j => foundF j (readW a s j))) ∧ t.len = i ∧ ∀ b o, t.p = some (b, o) → M b)
    (fun y G => ∃ t M, y = (t, ()) ∧ WrAt M G z a e s v sb ∧ (∀ k, N k → M k) ∧ Keep (fun _ => False) H G ∧ Row G 8 t (rowsF ((List.range n).map fun j => foundF j (readW a s j))) ∧ ∀ b o, t.p = some (b, o) → M b)
    (by
      rintro i _ R hi ⟨t, M, rfl, f1, f2, g, htl, f3⟩
      refine .inl ?_
      have hlen : decide ((i : Int) < (n : Int)) = true := decide_eq_true (by omega)
      have hsu := wrap_succ (show i < 9223372036854775807 by omega)
      let x0 : F8 := ((i : Int), 0, 0, 0, 0, 0, 0, [], ())
      let R1 : Heap := R ++ [.cells (fC x0) .exact]
      have w1 : wr (R ++ [Blk.cells [.int .i64 0, .int .i64 0, .int .i64 0, .int .u64 0, .int .i64 0, .int .i64 0, .int .i64 0, .str []] .exact]) R.length 0 [.int .i64 (i : Int), .int .i64 0, .int .i64 0, .int .u64 0, .int .i64 0, .int .i64 0, .int .i64 0, .str []] = some R1 := by
        rw [wr_last (by decide) (by simp)]; rfl
      have wR1 := f1.grow (Keep.push (fun _ => False) R (.cells (fC x0) .exact)) fun _ h => h.elim
      obtain ⟨R2, r1, r2, r3⟩ := write_Read wR1 w (k := i) (by omega)
      generalize hr : readW a s i = r at r1
      obtain ⟨tg, tx, er, u⟩ := r
      have r1' : write_Writer_Read (some (z.w, 0)) (i : Int) R1 = some ((tg, tx, er, u), R2) := r1
      let R3 : Heap := R2 ++ [.cells (tC tg) .exact]
      have w3 : wr (R2 ++ [Blk.cells [.int .i64 0, .int .u64 0, .int .i64 0, .int .i64 0, .int .i64 0] .exact]) R2.length 0 [.int .i64 tg.1, .int .u64 tg.2.1, .int .i64 tg.2.2.1, .int .i64 tg.2.2.2.1, .int .i64 tg.2.2.2.2.1] = some R3 := by
        rw [wr_last (by decide) (by simp)]; rfl
      have k2 : Keep (fun _ => False) R1 R2 := r3
      have hR1 : R1.length = R.length + 1 := by simp [R1]
      have hR2 := k2.len
      have b1 : R3[R.length]? = some (.cells (fC x0) .exact) := by
        rw [app_lt (by omega)]; exact k2.get app_last id
      have kR3 : Keep (fun _ => False) R R3 := ((Keep.push _ _ _).trans k2).trans (Keep.push _ _ _)
      by_cases h0 : er = 0
      · let x : F8 := ((i : Int), 1, tg.1, tg.2.1, tg.2.2.1, tg.2.2.2.1, tg.2.2.2.2.1, tx, ())
        have hF : foundF i (readW a s i) = x := by rw [hr]; exact if_pos h0
        have e9 : @Eq (Option T5) (rd R3 (.agg [.int .i64, .int .u64, .int .i64, .int .i64, .int .i64]) R2.length 0) (some tg) := rd_agg_of (ts := tts) app_last (Nat.le_refl 5) rfl
        have v1 : wr R3 R.length 1 [.int .i64 1] = some (R3.set R.length (.cells [.int .i64 (i : Int), .int .i64 1, .int .i64 0, .int .u64 0, .int .i64 0, .int .i64 0, .int .i64 0, .str []] .exact)) := by
          rw [wr_of b1 (by decide) (show 1 + 1 ≤ 8 by decide)]; rfl
        generalize hQ : R3.set R.length (.cells [.int .i64 (i : Int), .int .i64 1, .int .i64 0, .int .u64 0, .int .i64 0, .int .i64 0, .int .i64 0, .str []] .exact) = Q1 at v1
        have b2 : Q1[R.length]? = some (.cells [.int .i64 (i : Int), .int .i64 1, .int .i64 0, .int .u64 0, .int .i64 0, .int .i64 0, .int .i64 0, .str []] .exact) := by rw [← hQ]; exact set_get (get_lt b1)
        have b11 : Q1[R2.length]? = some (.cells (tC tg) .exact) := by rw [← hQ, set_get' (by omega)]; exact app_last
        have e11 : @Eq (Option T5) (rd Q1 (.agg [.int .i64, .int .u64, .int .i64, .int .i64, .int .i64]) R2.length 0) (some tg) := rd_agg_of (ts := tts) b11 (Nat.le_refl 5) rfl
        have v2 : wr Q1 R.length 2 [.int .i64 tg.1, .int .u64 tg.2.1, .int .i64 tg.2.2.1, .int .i64 tg.2.2.2.1, .int .i64 tg.2.2.2.2.1] = some (Q1.set R.length (.cells [.int .i64 (i : Int), .int .i64 1, .int .i64 tg.1, .int .u64 tg.2.1, .int .i64 tg.2.2.1, .int .i64 tg.2.2.2.1, .int .i64 tg.2.2.2.2.1, .str []] .exact)) := by
          rw [wr_of b2 (by decide) (show 2 + 5 ≤ 8 by decide)]; rfl
        generalize hQ2 : Q1.set R.length (.cells [.int .i64 (i : Int), .int .i64 1, .int .i64 tg.1, .int .u64 tg.2.1, .int .i64 tg.2.2.1, .int .i64 tg.2.2.2.1, .int .i64 tg.2.2.2.2.1, .str []] .exact) = Q2 at v2
        have b3 : Q2[R.length]? = some (.cells [.int .i64 (i : Int), .int .i64 1, .int .i64 tg.1, .int .u64 tg.2.1, .int .i64 tg.2.2.1, .int .i64 tg.2.2.2.1, .int .i64 tg.2.2.2.2.1, .str []] .exact) := by rw [← hQ2]; exact set_get (get_lt b2)
        have v3 : wr Q2 R.length 7 [.str tx] = some (Q2.set R.length (.cells (fC x) .exact)) := by
          rw [wr_of b3 (by decide) (show 7 + 1 ≤ 8 by decide)]; rfl
        generalize hQ3 : Q2.set R.length (.cells (fC x) .exact) = Q3 at v3
        have kQ : Keep (fun j => j = R.length) R3 Q3 := by
          rw [← hQ3, ← hQ2, ← hQ]
          exact Keep.trans (F := fun j => j = R.length) (Keep.trans (F := fun j => j = R.length) (Keep.set _ _ _ rfl) (Keep.set _ _ _ rfl)) (Keep.set _ _ _ rfl)
        have b14 : Q3[R.length]? = some (.cells (fC x) .exact) := by rw [← hQ3]; exact set_get (get_lt b3)
        have e14 : @Eq (Option F8) (rd Q3 (.agg [.int .i64, .int .i64, .int .i64, .int .u64, .int .i64, .int .i64, .int .i64, .str]) R.length 0) (some x) := (FAt.mk ⟨_, _, b14, Nat.le_refl 8, rfl⟩ : FAt Q3 R.length 0 x).all
        have kRQ : Keep (fun _ => False) R Q3 := ((kR3.mono (G := fun j => j = R.length) fun _ h => h.elim).trans kQ).new fun j hj hlt => by
          have : j = R.length := hj
          omega
        have gQ := g.stay0 kRQ
        obtain ⟨t', R5, c1, c2, c3, c4, c5, c6, c7, c8⟩ := gQ.one (bytes := 72) (new := fC x) (by decide) rfl (by omega) (by omega)
        have wQ := f1.grow kRQ fun _ h => h.elim
        have w5 := wQ.grow c5 fun j ⟨o', ho'⟩ _ => .inl (f3 j o' ho')
        refine ⟨(t', ((i + 1 : Nat) : Int), ()), R5, ?_, t', _, rfl, w5, fun k hk => .inl (.inl (f2 k hk)), ?_, by omega, ?_⟩
        · unfold law14_found.s1
          simp only [hlen, cond_t, w1, bind_some, r1', w3, decide_eq_true h0, e9, v1, e11, if_true, v2, v3, e14]
          have c1' : slRow (Q3 ++ [Blk.cells [.int .i64 x.1, .int .i64 x.2.1, .int .i64 x.2.2.1, .int .u64 x.2.2.2.1, .int .i64 x.2.2.2.2.1, .int .i64 x.2.2.2.2.2.1, .int .i64 x.2.2.2.2.2.2.1, .str x.2.2.2.2.2.2.2.1] .exact]) 8 ⟨some (Q3.length, 0), 1, 1⟩ = some (fC x) := c1
          have c2' : appS (Q3 ++ [Blk.cells [.int .i64 x.1, .int .i64 x.2.1, .int .i64 x.2.2.1, .int .u64 x.2.2.2.1, .int .i64 x.2.2.2.2.1, .int .i64 x.2.2.2.2.2.1, .int .i64 x.2.2.2.2.2.2.1, .str x.2.2.2.2.2.2.2.1] .exact]) 8 72 t 1 (fC x) = some (t', R5) := c2
          simp only [c1', bind_some, c2', hsu]
        · rw [List.range_succ, List.map_append, List.map_singleton, rowsF_one, hF]; exact c3
        · intro b o ho
          rw [c7] at ho
          have hb : c6 = b := by cases ho; rfl
          subst hb
          have h5 := c3.gr.lt c7
          exact .inr ⟨by omega, h5⟩
      · have hF : foundF i (readW a s i) = x0 := by rw [hr]; exact if_neg h0
        have e14 : @Eq (Option F8) (rd R3 (.agg [.int .i64, .int .i64, .int .i64, .int .u64, .int .i64, .int .i64, .int .i64, .str]) R.length 0) (some x0) := (FAt.mk ⟨_, _, b1, Nat.le_refl 8, rfl⟩ : FAt R3 R.length 0 x0).all
        have gQ := g.stay0 kR3
        obtain ⟨t', R5, c1, c2, c3, c4, c5, c6, c7, c8⟩ := gQ.one (bytes := 72) (new := fC x0) (by decide) rfl (by omega) (by omega)
        have wQ := f1.grow kR3 fun _ h => h.elim
        have w5 := wQ.grow c5 fun j ⟨o', ho'⟩ _ => .inl (f3 j o' ho')
        refine ⟨(t', ((i + 1 : Nat) : Int), ()), R5, ?_, t', _, rfl, w5, fun k hk => .inl (.inl (f2 k hk)), ?_, by omega, ?_⟩
        · unfold law14_found.s1
          simp only [hlen, cond_t, w1, bind_some, r1', w3, decide_eq_false h0, cond_f, e14]
          have c1' : slRow (R3 ++ [Blk.cells [.int .i64 x0.1, .int .i64 x0.2.1, .int .i64 x0.2.2.1, .int .u64 x0.2.2.2.1, .int .i64 x0.2.2.2.2.1, .int .i64 x0.2.2.2.2.2.1, .int .i64 x0.2.2.2.2.2.2.1, .str x0.2.2.2.2.2.2.2.1] .exact]) 8 ⟨some (R3.length, 0), 1, 1⟩ = some (fC x0) := c1
          have c2' : appS (R3 ++ [Blk.cells [.int .i64 x0.1, .int .i64 x0.2.1, .int .i64 x0.2.2.1, .int .u64 x0.2.2.2.1, .int .i64 x0.2.2.2.2.1, .int .i64 x0.2.2.2.2.2.1, .int .i64 x0.2.2.2.2.2.2.1, .str x0.2.2.2.2.2.2.2.1] .exact]) 8 72 t 1 (fC x0) = some (t', R5) := c2
          simp only [c1', bind_some, c2', hsu]
        · rw [List.range_succ, List.map_append, List.map_singleton, rowsF_one, hF]; exact c3
        · intro b o ho
          rw [c7] at ho
          have hb : c6 = b := by cases ho; rfl
          subst hb
          have h5 := c3.gr.lt c7
          exact .inr ⟨by omega, h5⟩)
    (by
      rintro _ R ⟨t, M, rfl, f1, f2, g, htl, f3⟩
      refine ⟨_, R, ?_, t, M, rfl, f1, f2, g.keep, g.row, f3⟩
      unfold law14_found.s1
      simp only [decide_eq_false (show ¬ ((n : Nat) : Int) < (n : Int) by omega), cond_f])
    (y := (⟨some (H.length, 0), 0, 0⟩, ((0 : Nat) : Int), ())) (H := H ++ [.cells [] .exact])
    ⟨_, fun j => N j ∨ (H.length ≤ j ∧ j < (H ++ [Blk.cells [] .exact]).length), rfl, h.grow (Keep.push (fun _ => False) H (.cells [] .exact)) fun _ h => h.elim, fun k hk => .inl hk, GrowN.em (Keep.refl _ _) 8, rfl, fun b o ho => (by cases ho; exact .inr ⟨Nat.le_refl _, by rw [List.length_append]; exact Nat.lt_succ_self _⟩)⟩
  have l1' : loopW (law14_found.s1 (some (z.w, 0)) (n : Int)) (⟨some (H.length, 0), 0, 0⟩, 0, ()) (H ++ [.cells [] .exact]) = some ((t, ()), G) := l1
  exact ⟨t, G, M, by simp only [l1', bind_some], m1, m2, m3, m4, m5⟩
end

/-! What the newest one is. -/
theorem nw_from (L : List F8) : ∀ i, i ≤ L.length → (∀ t, nw L i = some t → ∃ x ∈ L, x.2.1 = 1 ∧ x.2.2.1 = 3 ∧ tagF x = t ∧ Whole L t) ∧ ∀ x ∈ L.take i, x.2.1 = 1 → x.2.2.1 = 3 → Whole L (tagF x) → ∃ t, nw L i = some t ∧ x.2.2.2.1 ≤ t.2.1
  | 0, _ => ⟨fun t h => (by cases h), fun x h => (by simp at h)⟩
  | i + 1, hi => by
    obtain ⟨h1, h2⟩ := nw_from L i (by omega)
    rw [nw_succ L (by omega)]
    unfold nwS
    split
    · rename_i hc
      refine ⟨fun t ht => ?_, fun x hx x1 x2 x3 => ⟨_, rfl, ?_⟩⟩
      · cases ht
        exact ⟨L[i], List.getElem_mem _, hc.1, hc.2.1, rfl, hc.2.2.2⟩
      · rw [List.take_succ_eq_append_getElem (by omega)] at hx
        rcases List.mem_append.1 hx with hx | hx
        · obtain ⟨t, g1, g2⟩ := h2 x hx x1 x2 x3
          have := hc.2.2.1 t g1
          show x.2.2.2.1 ≤ L[i].2.2.2.1
          omega
        · rw [List.mem_singleton] at hx
          rw [hx]
          exact Int.le_refl _
    · rename_i hc
      refine ⟨h1, fun x hx x1 x2 x3 => ?_⟩
      rw [List.take_succ_eq_append_getElem (by omega)] at hx
      rcases List.mem_append.1 hx with hx | hx
      · exact h2 x hx x1 x2 x3
      · rw [List.mem_singleton] at hx
        rw [hx] at x1 x2 x3 ⊢
        cases hn : nw L i with
        | none => exact absurd ⟨x1, x2, fun t ht => (by rw [hn] at ht; cases ht), x3⟩ hc
        | some t =>
          refine ⟨t, rfl, ?_⟩
          by_cases hlt : t.2.1 < L[i].2.2.2.1
          · exact absurd ⟨x1, x2, fun t' ht => (by rw [hn] at ht; cases ht; exact hlt), x3⟩ hc
          · omega
end Ev

/- Chapter 14: the law's own trial. -/
namespace Ev
open Go (IntKind)

theorem read_std {a : NdA} {s : Nd} (ho : s.off = false) (hS : a.S ≤ 1000) {L : List Pg} (std : ∀ b q, q < a.P → ∀ y, L[b * a.P + q]? = some y → s.pages b q = frameB a (y.1.worn 0) y.2) {j : Nat} (hP : 0 < a.P) (hj : j < a.B * a.P) {y : Pg} (hy : L[j]? = some y) (ht : tagOK (y.1.worn 0) = true) (hq : 0 ≤ y.1.2.1 ∧ y.1.2.1 < 18446744073709551616) (hx : y.2.length ≤ a.S) :
    readW a s j = (y.1.worn 0, y.2, 0, ()) := by
  have h1 := Nat.div_add_mod j a.P
  have h2 := Nat.mod_lt j hP
  have h3 : j / a.P * a.P + j % a.P = j := by rw [Nat.mul_comm]; exact h1
  have hb : j / a.P < a.B := (Nat.div_lt_iff_lt_mul hP).2 hj
  have hp := std (j / a.P) (j % a.P) h2 y (by rw [h3]; exact hy)
  have := read_told ho hb h2 hp ht hq (by omega) hx
  rw [h3] at this
  exact this
theorem read_emp' {a : NdA} {s : Nd} {n : Nat} (emp : ∀ b q, q < a.P → n ≤ b * a.P + q → s.pages b q = []) (hP : 0 < a.P) {j : Nat} (hj : n ≤ j) : ∃ er, readW a s j = (tag0, [], er, ()) ∧ er ≠ 0 := by
  have h1 := Nat.div_add_mod j a.P
  have h2 := Nat.mod_lt j hP
  have h3 : j / a.P * a.P + j % a.P = j := by rw [Nat.mul_comm]; exact h1
  have := read_emp (s := s) h2 (emp (j / a.P) (j % a.P) h2 (by rw [h3]; exact hj))
  rw [h3] at this
  exact this
theorem foundF_no {j : Nat} {r : Tg × Bytes × Int × Unit} (h : r.2.2.1 ≠ 0) : foundF j r = ((j : Int), 0, 0, 0, 0, 0, 0, [], ()) := if_neg h
theorem foundF_yes {j : Nat} {t : Tg} {x : Bytes} : foundF j (t, x, 0, ()) = ((j : Int), 1, t.1, t.2.1, t.2.2.1, t.2.2.2.1, t.2.2.2.2.1, x, ()) := if_pos rfl

/-- All sizes that the chips of these laws have. -/
theorem awake14 : law14_awake = some (true, ()) := by
  unfold law14_awake law14_awake.on
  obtain ⟨H1, a, e, z, b1, b2, b3, ⟨hB0, hB1, hP0, hP1, hS0, hS1⟩, i0, w0⟩ := begun13n [] (0, 0, 0, ())
  have b1' : law13_Begun (0, 0, 0, ()) (⟨none, 0, 0⟩, ⟨none, 0, 0⟩, ⟨none, 0, 0⟩, ()) [] = some ((some (a.c, 0), some (z.w, 0), true, ()), H1) := b1
  let x : RecT := (5, 3, 0, 0, 0, 0, ())
  have k2 : Keep (fun _ => False) H1 (H1 ++ [.cells (rC x) .exact]) := Keep.push _ _ _
  have h2 := b2.grow k2 fun _ h => h.elim
  have row2 : Row (H1 ++ [.cells (rC x) .exact]) 6 ⟨some (H1.length, 0), 1, 1⟩ (rowsR [x]) := ⟨row_last rfl, fun h => by cases h⟩
  have hBP : 32 ≤ a.B * a.P := Nat.mul_le_mul (show 8 ≤ a.B from hB0) (show 4 ≤ a.P from hP0)
  have hpk := packF_ok 64 (by decide) [x]
  have hpl : (packF 64 [x]).length = 1 := by
    have := hpk.2.1
    have h3 : max 1 [x].length = 1 := rfl
    omega
  obtain ⟨ps, sq, er, G, M, s', v', sb', c1, c2, c3, c4, c5, c6⟩ := write_all (K := 3) (q := 7) (size := 64) (recs := [x]) h2 (OnL.new a (by omega)) w0 (by decide) row2 (by decide) ⟨by decide, hS0, by omega⟩ (.inr rfl) (by decide) (by rw [hpl]; show 0 + 1 ≤ _; omega)
  rcases c6 with ⟨rfl, hsq, d1, d2, d3, d4, _⟩ | ⟨_, m, y, _, hy, _⟩
  rotate_left
  · cases hy
  rw [hpl] at d1 d2 d4 hsq
  have hsq : sq = 8 := hsq
  subst hsq
  generalize hT : packF 64 [x] = T at *
  obtain ⟨fl, G2, M2, f1, f2, f3, f4, f5, f6⟩ := foundall_eq c2 c5 (n := 8) (by decide)
  have f1' : law14_found (some (z.w, 0)) 8 G = some ((fl, ()), G2) := f1
  have hT0 : T.getD 0 [] ∈ T := by
    have : T.getD 0 [] = T[0] := by simp [List.getD, hpl]
    rw [this]; exact List.getElem_mem _
  have hrd0 : readW a s' 0 = ((tagW 3 7 1 0).worn 0, T.getD 0 [], 0, ()) := read_std (y := (tagW 3 7 1 0, T.getD 0 [])) d4.off (by omega) d4.std (by omega) (by omega) (by rw [show ([] : List Pg) ++ pgsW 3 7 T 1 = pgsW 3 7 T 1 from rfl, pgsW_get 3 7 T (show 0 < 1 by decide), hpl]) (tagW_ok (.inr rfl) (by decide) (by decide)) (show (0 : Int) ≤ 7 ∧ (7 : Int) < 18446744073709551616 from ⟨by decide, by decide⟩) (Nat.le_trans (hpk.2.2 _ hT0) hS0)
  have hrd : ∀ j, 1 ≤ j → ∃ er, readW a s' j = (tag0, [], er, ()) ∧ er ≠ 0 := fun j hj => read_emp' (n := 1) (fun b q hq hle => d4.emp b q hq (by rw [List.length_append, pgsW_len]; exact hle)) (by omega) hj
  let x0 : F8 := (0, 1, 3, 7, 0, 1, 0, T.getD 0 [], ())
  have hF0 : foundF 0 (readW a s' 0) = x0 := by rw [hrd0]; exact foundF_yes
  have hFj : ∀ j, 1 ≤ j → (foundF j (readW a s' j)).2.1 = 0 := fun j hj => by
    obtain ⟨er, h1, h2⟩ := hrd j hj
    rw [h1, foundF_no h2]
  generalize hL : (List.range 8).map (fun j => foundF j (readW a s' j)) = L at f5
  have hone : ∀ y ∈ L, y.2.1 = 1 → y = x0 := fun y hy h1 => by
    rw [← hL] at hy
    obtain ⟨j, hj, rfl⟩ := List.mem_map.1 hy
    by_cases h0 : j = 0
    · rw [h0]; exact hF0
    · rw [hFj j (by omega)] at h1; cases h1
  have hx0 : x0 ∈ L := by
    rw [← hL]
    exact List.mem_map.2 ⟨0, by simp, hF0⟩
  have hLl : L.length = 8 := by rw [← hL]; simp
  obtain ⟨cs, G3, n1, n2, n3⟩ := newest_eq f5 (fun y hy h1 => by rw [hone y hy h1]; exact Int.le_refl 0) (fun y hy h1 => by rw [hone y hy h1]; exact ⟨Int.le_refl 1, (by decide : (1 : Int) ≤ 100000)⟩) (by omega)
  obtain ⟨p1, p2⟩ := nw_from L 8 (by omega)
  have hw : Whole L (tagF x0) := fun k hk => by
    have hk' : (k : Int) < 1 := hk
    have : k = 0 := by omega
    subst this
    exact ⟨x0, hx0, rfl, rfl⟩
  obtain ⟨t, ht, _⟩ := p2 x0 (by rw [← hLl, List.take_length]; exact hx0) rfl rfl hw
  obtain ⟨y, hy, y1, y2, y3, _⟩ := p1 t ht
  have := hone y hy y1
  subst this
  rw [hLl, ht] at n1 n3
  have n1' : ckpt_Newest fl G2 = some ((cs, true, ()), G3) := n1
  obtain ⟨n, pg, m0, m1, m2, m3, m4⟩ := n3
  rw [← y3] at m1
  have m1' : (1 : Int) = (n : Int) := m1
  have hn1 : n = 1 := by omega
  subst hn1
  obtain ⟨tx, G4, t1, t2⟩ := texts_eq m3 (by rw [List.length_map, List.length_range]; decide)
  have htl := t2.row.txt_len
  rw [List.length_map, List.length_map, List.length_range] at htl
  have dr := (d2.keep f4 fun _ _ _ h => h).keep n2 fun _ _ _ h => h
  obtain ⟨pb, po, _, g1, g2⟩ := dr.int (i := 0) (by decide)
  have g1' : Sl.at 1 ps 0 = some (pb, po + 0) := g1
  have g2' : rdI .i64 G3 pb (po + 0) = some 0 := g2
  have c1' : ckpt_Write (some (z.w, 0)) ⟨some (H1.length, 0), 1, 1⟩ 3 7 64 (H1 ++ [Blk.cells [.int .i64 5, .int .i64 3, .int .i64 0, .int .i64 0, .int .i64 0, .int .i64 0] .exact]) = some ((ps, 8, 0, ()), G) := c1
  have e1 : decide ((ps.len : Int) = 1) = true := by rw [d1]; rfl
  have e2 : decide ((cs.len : Int) = 1) = true := by rw [m2]; rfl
  have e3 : decide ((tx.len : Int) = 1) = true := by rw [htl]; rfl
  simp only [b1', bind_some, Bool.not_true, cond_f, c1', f1', n1', decide_true, cond_t, e1, g1', g2', e2, t1, e3]
end Ev

/- Chapter 14: the newest checkpoint is the law's. -/
namespace Ev
open Go (IntKind)

theorem newest_true (aw : law14_awake = some (true, ())) {H : Heap} {x0 : Sl} {rows : List In5} (hs : Row H 5 x0 (rowsOf in5 rows)) (hl : x0.len = rows.length) : ∃ H', law14_CkptNewest x0 H = some ((true, ()), H') := by
  unfold law14_CkptNewest
  obtain ⟨t, G, L, l1, g, hL, hok⟩ := founds_eq hs hl
  have hI : ∀ x ∈ L, x.2.1 = 1 → 0 ≤ F8.ix x := fun x hx _ => (hok x hx).ix
  have hO : ∀ x ∈ L, x.2.1 = 1 → 1 ≤ x.2.2.2.2.2.1 ∧ x.2.2.2.2.2.1 ≤ 100000 := fun x hx _ => ⟨(hok x hx).of1, (hok x hx).of2⟩
  obtain ⟨tg, G1, n1, n2, n3⟩ := lawnewest_eq g.row hO (by omega)
  let G2 : Heap := G1 ++ [tB tg]
  have w1 : wr (G1 ++ [Blk.cells [.int .i64 0, .int .u64 0, .int .i64 0, .int .i64 0, .int .i64 0] .exact]) G1.length 0 [.int .i64 tg.1, .int .u64 tg.2.1, .int .i64 tg.2.2.1, .int .i64 tg.2.2.2.1, .int .i64 tg.2.2.2.2.1] = some G2 := by
    rw [wr_last (by decide) (by simp)]; rfl
  have k2 : Keep (fun _ => False) G G2 := n2.trans (Keep.push _ _ _)
  obtain ⟨cs, G3, c1, c2, c3⟩ := newest_eq (g.row.keep k2 fun _ _ _ h => h) hI hO (by omega)
  have tgb : G3[G1.length]? = some (tB tg) := c2.get app_last id
  cases hn : nw L L.length with
  | none =>
    rw [hn] at n1 c1 c3
    have c3 : cs = ⟨none, 0, 0⟩ := c3
    subst c3
    refine ⟨G3, ?_⟩
    have z0 : decide (((⟨none, 0, 0⟩ : Sl).len : Int) = 0) = true := rfl
    simp only [l1, bind_some, n1, w1, c1, aw, Bool.not_true, cond_f, Option.isSome_none, Bool.not_false, cond_t, z0, sum0, show (!(false == false)) = false from rfl]
  | some t2 =>
    have he := n3 t2 hn
    subst he
    rw [hn] at n1 c1 c3
    obtain ⟨n, pg, h0, h1, h2, h3, h4⟩ := c3
    obtain ⟨tx, G4, t1, t2⟩ := texts_eq h3 (by
      have hf := found_len h3
      rw [List.length_map, List.length_range, h2] at hf
      have h5 := (hok _ (h4 0 h0).1).of2
      have h6 := (hit_seq (h4 0 h0).2.1).2.2.1
      have h7 : tg.2.2.2.1 = (n : Int) := h1
      rw [List.length_map, List.length_range]; omega)
    have tg4 : G4[G1.length]? = some (tB tg) := t2.keep.get tgb id
    have r3 : rdI .i64 G4 G1.length 3 = some (n : Int) := by rw [← h1]; exact rdI_of tg4 rfl
    have htx := t2.row.txt_len
    rw [List.length_map, List.length_map, List.length_range] at htx
    have hsmall : n ≤ 100000 := by
      have h5 := (hok _ (h4 0 h0).1).of2
      have h6 := (hit_seq (h4 0 h0).2.1).2.2.1
      have h7 : tg.2.2.2.1 = (n : Int) := h1
      omega
    obtain ⟨w, G5, m1, rfl⟩ := loop_rise (step := law14_CkptNewest.s2 ((tg, true, ()), G1) ((cs, true, ()), G3) ((tx, ()), G4)) n (fun i y G => y = ((i : Int), ()) ∧ G = G4) (fun w _ => w = .inl ())
      (by
        rintro i _ R hi ⟨rfl, hR⟩
        rw [hR]
        refine .inl ?_
        obtain ⟨b, o, a1, ⟨o', a2⟩, fa⟩ := found_at h3 (i := i) (by simpa using hi)
        have hx : ((List.range n).map pg)[i]'(by simpa using hi) = pg i := by simp
        rw [hx] at fa
        have fg : FAt G4 b o (pg i) := by
          obtain ⟨cs, bk, u1, u2⟩ := fa
          exact ⟨cs, bk, t2.keep.get u1 (fun h => h), u2⟩
        obtain ⟨h5, h6, h7⟩ := h4 i hi
        obtain ⟨j1, j2, j3, j4, j5⟩ := hit_seq h6
        have j6 := (hok _ h5).x0
        have j7 : (pg i).2.2.2.2.1 = (i : Int) := h7
        have j8 : tg.2.2.2.1 = (n : Int) := h1
        have e0 := fg.tag
        have p1 : rdI .i64 G4 G1.length 0 = some tg.1 := rdI_of tg4 rfl
        have p2 : rdI .u64 G4 G1.length 1 = some tg.2.1 := rdI_of tg4 rfl
        obtain ⟨b2, o2, s1, s2, _⟩ := t2.row.txt (i := i) (by simpa using hi)
        have hx2 : (((List.range n).map pg).map fun x => x.2.2.2.2.2.2.2.1)[i]'(by simpa using hi) = (pg i).2.2.2.2.2.2.2.1 := by simp
        rw [hx2] at s2
        have e1 := fg.text
        refine ⟨_, G4, ?_, rfl, rfl⟩
        unfold law14_CkptNewest.s2
        simp only [decide_eq_true (show (i : Int) < (cs.len : Int) by omega), cond_t, a1, bind_some, e0, p1, p2, r3, decide_eq_true j2, decide_eq_true j5, decide_eq_true j7, decide_eq_true (j3.trans j8), decide_eq_true j6, Bool.and_self, Bool.true_and, Bool.not_true, cond_f, s1, s2, e1, decide_true, wrap_succ (show i < 9223372036854775807 by omega)])
      (by
        rintro _ R ⟨rfl, hR⟩
        rw [hR]
        refine ⟨.inl (), G4, ?_, rfl⟩
        unfold law14_CkptNewest.s2
        simp only [decide_eq_false (show ¬ ((n : Nat) : Int) < (cs.len : Int) by omega), cond_f])
      (y := (((0 : Nat) : Int), ())) (H := G4) ⟨rfl, rfl⟩
    have m1' : loopW (law14_CkptNewest.s2 ((tg, true, ()), G1) ((cs, true, ()), G3) ((tx, ()), G4)) (0, ()) G4 = some (.inl (), G5) := m1
    refine ⟨G5, ?_⟩
    have d1 : decide ((cs.len : Int) = (n : Int)) = true := decide_eq_true (by omega)
    have d2 : decide ((tx.len : Int) = (n : Int)) = true := decide_eq_true (by omega)
    simp only [l1, bind_some, n1, w1, c1, aw, Bool.not_true, cond_f, Option.isSome_some, show (!(true == true)) = false from rfl, sum0, t1, r3, d1, d2, m1']
theorem CkptNewest_true (x0 : Sl) {H : Heap} (hx0 : Came [.int .i64, .int .i64, .int .i64, .int .i64, .int .i64] [] x0 H) : ∃ H', law14_CkptNewest x0 H = some ((true, ()), H') := by
  obtain ⟨rows, r1, r2, _, _⟩ := came_rows hx0
  exact newest_true awake14 (rows := rows) r1 r2
end Ev
