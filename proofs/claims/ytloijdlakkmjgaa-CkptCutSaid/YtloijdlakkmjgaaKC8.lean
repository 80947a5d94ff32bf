/- SCkptW SLaw14f SLaw14a SLaw14b SPt SLaw14t -/
import Derived.Test.YtloijdlakkmjgaaKC3
import Derived.Test.YtloijdlakkmjgaaKC4
import Derived.Test.YtloijdlakkmjgaaKC7
import Derived.Test.YtloijdlakkmjgaaGLaw14
import Derived.Test.YtloijdlakkmjgaaKC2
import Derived.Test.YtloijdlakkmjgaaKC5
/- Checkpoints: records are written as pages that belong together. -/
namespace Ev
open Go (IntKind)

def seqW (K : Int) (q i : Nat) : Nat := if K = 3 then q else q + i
def tagW (K : Int) (q n i : Nat) : Tg := (K, (seqW K q i : Int), (i : Int), (n : Int), 0, ())
def pgsW (K : Int) (q : Nat) (T : List Bytes) (m : Nat) : List Pg := (List.range m).map fun i => (tagW K q T.length i, T.getD i [])
theorem pgsW_len (K : Int) (q : Nat) (T : List Bytes) (m : Nat) : (pgsW K q T m).length = m := by simp [pgsW]
theorem pgsW_succ (K : Int) (q : Nat) (T : List Bytes) (m : Nat) : pgsW K q T (m + 1) = pgsW K q T m ++ [(tagW K q T.length m, T.getD m [])] := by simp [pgsW, List.range_succ]
theorem pgsW_get (K : Int) (q : Nat) (T : List Bytes) {m i : Nat} (h : i < m) : (pgsW K q T m)[i]? = some (tagW K q T.length i, T.getD i []) := by simp [pgsW, h]
theorem tagW_ok {K : Int} (hK : K = 2 ∨ K = 3) {q n i : Nat} (hi : i < n) (hn : n < 60000) : tagOK ((tagW K q n i).worn 0) = true := by
  refine decide_eq_true ?_
  show 1 ≤ K ∧ K ≤ 3 ∧ 1 ≤ (n : Int) ∧ (n : Int) < 65536 ∧ 0 ≤ (i : Int) ∧ (i : Int) < (n : Int) ∧ 0 ≤ (0 : Int) ∧ (0 : Int) < 4294967296
  omega
def ints (b n : Nat) : List Int := (List.range n).map fun i => ((b + i : Nat) : Int)
theorem ints_succ (b n : Nat) : intC (ints b (n + 1)) = intC (ints b n) ++ [.int .i64 ((b + n : Nat) : Int)] := by simp [ints, intC, List.range_succ]
theorem ints_len (b n : Nat) : (ints b n).length = n := by simp [ints]
section
variable {N : Nat → Prop} {H : Heap} {z : WrA} {a : NdA} {e : LfA} {s : Nd} {v : Wr} {sb : Sl} {D d : Int} {cs : List Cut} {L0 : List Pg}
/-- Blocks that are new are not the writer's. -/
theorem WrAt.grow (h : WrAt N H z a e s v sb) {F : Nat → Prop} {G : Heap} (k : Keep F H G) (hF : ∀ j, F j → j < H.length → N j) : WrAt (fun j => N j ∨ (H.length ≤ j ∧ j < G.length)) G z a e s v sb := by
  have h1 : WrAt N G z a e s v sb := h.keep (F := fun j => F j ∧ j < H.length) ⟨k.len, fun j hj hf => k.same j hj fun x => hf ⟨x, hj⟩⟩ fun j hj hf => h.nN j hj (hF j hf.1 hf.2)
  refine h1.more (fun j hj hm => ?_) (fun j hm => ?_)
  · rcases hm with hm | hm
    · exact h.nN j hj hm
    · have := h.lt hj; omega
  · rcases hm with hm | hm
    · have := h.NL j hm
      have := k.len
      omega
    · exact hm.2
structure CW (N : Nat → Prop) (H : Heap) (z : WrA) (a : NdA) (e : LfA) (d : Int) (cs : List Cut) (D : Int) (L : List Pg) (R : Heap) (M : Nat → Prop) (s : Nd) (v : Wr) (sb : Sl) : Prop where
  w : WrAt M R z a e s v sb
  sub : ∀ k, N k → M k
  keep : Keep (fun k => ¬ N k) H R
  on : OnL a s v d cs L
  wf : Wf a s D
theorem write_all {size : Nat} {sl : Sl} {recs : List RecT} (h : WrAt N H z a e s v sb) (o : OnL a s v d cs L0) (w : Wf a s D) (hD : D + 200 ≤ 1000000) (hs : Row H 6 sl (rowsR recs)) (hr : recs.length ≤ 30) (hS : 40 ≤ size ∧ size ≤ a.S ∧ a.S ≤ 1000) {K : Int} (hK : K = 2 ∨ K = 3) {q : Nat} (hq : q < 4294967296) (hroom : L0.length + (packF size recs).length ≤ a.B * a.P) :
    ∃ ps sq er G M s' v' sb', ckpt_Write (some (z.w, 0)) sl K (q : Int) (size : Int) H = some ((ps, sq, er, ()), G) ∧ WrAt M G z a e s' v' sb' ∧ (∀ k, N k → M k) ∧ Keep (fun k => ¬ N k) H G ∧ Wf a s' (D + 30) ∧
      ((er = 0 ∧ sq = (((if K = 3 then q + 1 else q + (packF size recs).length : Nat)) : Int) ∧ ps.len = (packF size recs).length ∧ Row G 1 ps (intC (ints L0.length (packF size recs).length)) ∧ (∀ b o, ps.p = some (b, o) → M b) ∧ OnL a s' v' d cs (L0 ++ pgsW K q (packF size recs) (packF size recs).length) ∧ ∀ i : Nat, i < (packF size recs).length → (cs.find? fun x => x.1 == d + (L0.length : Int) + (i : Int) + 1) = none) ∨
       (er = 51 ∧ ∃ m y, m < (packF size recs).length ∧ (cs.find? fun x => x.1 == d + (L0.length : Int) + (m : Int) + 1) = some y ∧ TornL a s' (L0 ++ pgsW K q (packF size recs) m) (tornB y (frameB a ((tagW K q (packF size recs).length m).worn 0) ((packF size recs).getD m []))))) := by
  obtain ⟨t, G0, p1, p2⟩ := pack_eq hs (by omega) ⟨hS.1, by omega⟩
  obtain ⟨hT1, hT2, hT3⟩ := packF_ok size hS.1 recs
  generalize hT : packF size recs = T at *
  have hTl : T.length ≤ 30 := by omega
  have ht := p2.row.txt_len
  have w0 := h.grow p2.keep fun _ h => h.elim
  unfold ckpt_Write
  have hfind : ∀ (s' : Nd) (v' : Wr) (L : List Pg), OnL a s' v' d cs L → s'.cutNow = cs.find? fun x => x.1 == d + (L.length : Int) + 1 := fun s' v' L o' => by
    unfold Nd.cutNow; rw [o'.cuts, o'.did]
  obtain ⟨u, G, l1, l2⟩ := loop_rise (step := ckpt_Write.s1 (some (z.w, 0)) K ((t, ()), G0)) T.length
    (fun i y R => ∃ ps M s' v' sb', y = ((seqW K q i : Int), ps, (i : Int), ()) ∧ CW N H z a e d cs (D + i) (L0 ++ pgsW K q T i) R M s' v' sb' ∧ Row R 1 t (T.map C.str) ∧ (∀ b o, t.p = some (b, o) → M b) ∧ GrowN [] R 1 ps (intC (ints L0.length i)) ∧ (∀ b o, ps.p = some (b, o) → M b ∧ G0.length ≤ b) ∧ G0.length ≤ R.length ∧ ∀ j : Nat, j < i → (cs.find? fun x => x.1 == d + (L0.length : Int) + (j : Int) + 1) = none)
    (fun y G => ∃ M s' v' sb', WrAt M G z a e s' v' sb' ∧ (∀ k, N k → M k) ∧ Keep (fun k => ¬ N k) H G ∧ Wf a s' (D + 30) ∧
      ((∃ ps, y = .inl ((seqW K q T.length : Int), ps, ()) ∧ ps.len = T.length ∧ Row G 1 ps (intC (ints L0.length T.length)) ∧ (∀ b o, ps.p = some (b, o) → M b) ∧ OnL a s' v' d cs (L0 ++ pgsW K q T T.length) ∧ ∀ i : Nat, i < T.length → (cs.find? fun x => x.1 == d + (L0.length : Int) + (i : Int) + 1) = none) ∨
       (∃ sq, y = .inr (⟨none, 0, 0⟩, sq, 51, ()) ∧ ∃ m x, m < T.length ∧ (cs.find? fun x => x.1 == d + (L0.length : Int) + (m : Int) + 1) = some x ∧ TornL a s' (L0 ++ pgsW K q T m) (tornB x (frameB a ((tagW K q T.length m).worn 0) (T.getD m []))))))
    (by
      rintro i _ R hi ⟨ps, M, s', v', sb', rfl, cw, rt, tM, gp, psM, hGR, hno⟩
      obtain ⟨b, oo, a1, a2, _⟩ := rt.txt (i := i) hi
      have hg : T.getD i [] = T[i] := by simp [List.getD, hi]
      have hx : T[i].length ≤ a.S := Nat.le_trans (hT3 _ (List.getElem_mem hi)) hS.2.1
      have hsq : seqW K q i < 8589934592 := by unfold seqW; split <;> omega
      obtain ⟨R1, p, er, s2, v2, sb2, c1, c2, c3, c4, c5⟩ := onl_app (t := tagW K q T.length i) (x := T[i]) cw.w cw.on (by rw [List.length_append, pgsW_len]; omega) cw.wf (by omega) (tagW_ok hK hi (by omega)) (by show 0 ≤ (seqW K q i : Int) ∧ (seqW K q i : Int) < 18446744073709551616; omega) hx
      have hlen : decide ((i : Int) < (t.len : Int)) = true := decide_eq_true (by rw [ht]; omega)
      have hsu := wrap_succ (show i < 9223372036854775807 by omega)
      have hwq : IntKind.wrap .u64 ((seqW K q i : Int) + 1) = ((seqW K q i + 1 : Nat) : Int) := by rw [wrap_u64]; omega
      have c1' : write_Writer_Append (some (z.w, 0)) (K, (seqW K q i : Int), (i : Int), (t.len : Int), 0, ()) T[i] R = some ((p, er, ()), R1) := by rw [ht]; exact c1
      have hLl : (L0 ++ pgsW K q T i).length = L0.length + i := by rw [List.length_append, pgsW_len]
      have kN : Keep (fun k => ¬ N k) H R1 := cw.keep.trans (c3.mono fun k hk hn => hk (cw.sub k hn))
      rcases c5 with ⟨n1, rfl, rfl, n4⟩ | ⟨y, n1, rfl, n3⟩
      · refine .inl ?_
        have gp1 := gp.stay (G' := R1) c3 fun j hj hlt => ⟨Nat.zero_le _, fun a' ha' e' => hj (by rw [← e']; exact (psM a'.1 a'.2 (by rw [ha'])).1)⟩
        have hpl : ps.len = i := by
          have := gp.gr.len
          simp [intC, ints_len] at this; omega
        obtain ⟨ps', R2, b1, b2, b3, b4, b5, b6, b7, b8⟩ := gp1.one (bytes := 8) (new := [.int .i64 ((L0 ++ pgsW K q T i).length : Int)]) (by decide) rfl (by omega) (by omega)
        have w2 := c2.grow b5 fun j ⟨o', ho'⟩ _ => (psM j o' ho').1
        refine ⟨((seqW K q (i + 1) : Int), ps', ((i + 1 : Nat) : Int), ()), R2, ?_, ps', _, s2, v2, sb2, rfl, ⟨w2, fun k hk => .inl (cw.sub k hk), ?_, ?_, ?_⟩, ?_, fun b o ho => .inl (tM b o ho), ?_, ?_, ?_, ?_⟩
        · unfold ckpt_Write.s1
          simp only [hlen, cond_t, a1, bind_some, a2, c1', decide_true, Bool.not_true, cond_f, b1, b2, hwq, hsu]
          by_cases hk : K = 3
          · have : seqW K q (i + 1) = seqW K q i := by unfold seqW; rw [if_pos hk, if_pos hk]
            simp only [decide_eq_true hk, Bool.not_true, cond_f, this]
          · have : seqW K q (i + 1) = seqW K q i + 1 := by unfold seqW; rw [if_neg hk, if_neg hk]; omega
            simp only [decide_eq_false hk, Bool.not_false, cond_t, this]
        · exact kN.trans (b5.mono fun k ⟨o', ho'⟩ hn => by
            have h1 := (psM k o' ho').2
            have h2 := h.NL k hn
            have h3 := p2.keep.len
            omega)
        · rw [pgsW_succ, ← List.append_assoc, hg]; exact n4
        · exact c4.le (by omega) (by omega)
        · refine (rt.keep c3 fun b o ho hn => hn (tM b o ho)).keep b5 fun b o ho ⟨o', ho'⟩ => ?_
          have h1 := (psM b o' ho').2
          have h2 := p2.gr.lt ho
          simp only at h2
          omega
        · rw [ints_succ]
          rw [hLl] at b3
          exact b3
        · intro b o ho
          rw [b7] at ho
          have hb : b6 = b := by cases ho; rfl
          subst hb
          have := b3.gr.lt b7
          have hH := c3.len
          exact ⟨.inr ⟨by omega, this⟩, by omega⟩
        · have h1 := c3.len
          have h2 := b5.len
          omega
        · intro j hj
          by_cases hji : j = i
          · subst hji
            rw [hfind _ _ _ cw.on, hLl] at n1
            rw [← n1]
            congr 1
            funext x
            congr 1
            omega
          · exact hno j (by omega)
      · refine .inr ⟨.inr (⟨none, 0, 0⟩, ((seqW K q i + 1 : Nat) : Int), 51, ()), R1, ?_, M, s2, v2, sb2, c2, cw.sub, kN, c4.le (by omega) (by omega), .inr ⟨_, rfl, i, y, hi, ?_, ?_⟩⟩
        · unfold ckpt_Write.s1
          simp only [hlen, cond_t, a1, bind_some, a2, c1', decide_eq_false (show ¬ (51 : Int) = 0 by decide), Bool.not_false, hwq]
        · rw [hfind _ _ _ cw.on, hLl] at n1
          rw [← n1]
          congr 1
          funext x
          congr 1
          omega
        · rw [hg]; exact n3)
    (by
      rintro _ R ⟨ps, M, s', v', sb', rfl, cw, rt, tM, gp, psM, hGR, hno⟩
      have hpl : ps.len = T.length := by
        have := gp.gr.len
        simp [intC, ints_len] at this; omega
      refine ⟨.inl ((seqW K q T.length : Int), ps, ()), R, ?_, M, s', v', sb', cw.w, cw.sub, cw.keep, cw.wf.le (by omega) (by omega), .inl ⟨ps, rfl, hpl, gp.row, fun b o ho => (psM b o ho).1, cw.on, hno⟩⟩
      unfold ckpt_Write.s1
      simp only [decide_eq_false (show ¬ ((T.length : Nat) : Int) < (t.len : Int) by rw [ht]; omega), cond_f])
    (y := ((seqW K q 0 : Int), ⟨none, 0, 0⟩, ((0 : Nat) : Int), ())) (H := G0)
    ⟨⟨none, 0, 0⟩, _, s, v, sb, rfl, ⟨w0, fun k hk => .inl hk, p2.keep.mono fun _ h => h.elim, by simpa [pgsW] using o, w.le (by omega) (by omega)⟩, p2.row, fun b o ho => .inr ⟨p2.new _ ho, p2.gr.lt ho⟩, GrowN.ni ⟨Nat.zero_le _, fun j hj => by simp at hj⟩ 1, fun b o ho => (by cases ho), Nat.le_refl _, fun j hj => by omega⟩
  obtain ⟨M, s', v', sb', m1, m2, m3, m4, m5⟩ := l2
  have l1' : loopW (ckpt_Write.s1 (some (z.w, 0)) K ((t, ()), G0)) ((q : Int), ⟨none, 0, 0⟩, 0, ()) G0 = some (u, G) := by
    have : seqW K q 0 = q := by unfold seqW; split <;> omega
    rw [this] at l1
    exact l1
  rcases m5 with ⟨ps, rfl, j1, j2, j3, j4, j5⟩ | ⟨sq, rfl, m, x, j1, j2, j3⟩
  · refine ⟨ps, _, 0, G, M, s', v', sb', ?_, m1, m2, m3, m4, .inl ⟨rfl, rfl, j1, j2, j3, j4, j5⟩⟩
    by_cases hk : K = 3
    · have hw : IntKind.wrap .u64 ((seqW K q T.length : Int) + 1) = ((q + 1 : Nat) : Int) := by unfold seqW; rw [if_pos hk, wrap_u64]; omega
      simp only [p1, bind_some, l1', sum0, decide_eq_true hk, cond_t, hw, if_pos hk]
    · have hw : seqW K q T.length = q + T.length := by unfold seqW; rw [if_neg hk]
      simp only [p1, bind_some, l1', sum0, decide_eq_false hk, cond_f, hw, if_neg hk]
  · refine ⟨⟨none, 0, 0⟩, sq, 51, G, M, s', v', sb', ?_, m1, m2, m3, m4, .inr ⟨rfl, m, x, j1, j2, j3⟩⟩
    simp only [p1, bind_some, l1', sum1]
end
end Ev

/- Chapter 14: all pages are read. -/
namespace Ev
open Go (IntKind)

def foundF (j : Nat) (r : Tg × Bytes × Int × Unit) : F8 := if r.2.2.1 = 0 then ((j : Int), 1, r.1.1, r.1.2.1, r.1.2.2.1, r.1.2.2.2.1, r.1.2.2.2.2.1, r.2.1, ()) else ((j : Int), 0, 0, 0, 0, 0, 0, [], ())
section
variable {N : Nat → Prop} {H : Heap} {z : WrA} {a : NdA} {e : LfA} {s : Nd} {v : Wr} {sb : Sl} {D : Int}
theorem rowsF_one (L : List F8) (x : F8) : rowsF (L ++ [x]) = rowsF L ++ fC x := by unfold rowsF; simp
theorem foundall_eq (h : WrAt N H z a e s v sb) (w : Wf a s D) {n : Nat} (hn : n ≤ 1000) :
    ∃ t G M, law14_found (some (z.w, 0)) (n : Int) H = some ((t, ()), G) ∧ WrAt M G z a e s v sb ∧ (∀ k, N k → M k) ∧ Keep (fun _ => False) H G ∧ Row G 8 t (rowsF ((List.range n).map fun j => foundF j (readW a s j))) ∧ ∀ b o, t.p = some (b, o) → M b := by
  unfold law14_found
  obtain ⟨u, G, l1, t, M, rfl, m1, m2, m3, m4, m5⟩ := loop_rise (step := law14_found.s1 (some (z.w, 0)) (n : Int)) n
    (fun i y R => ∃ t M, y = (t, (i : Int), ()) ∧ WrAt M R z a e s v sb ∧ (∀ k, N k → M k) ∧ GrowN H R 8 t (rowsF ((List.range i).map fun j => foundF j (readW a s j))) ∧ t.len = i ∧ ∀ b o, t.p = some (b, o) → M b)
    (fun y G => ∃ t M, y = (t, ()) ∧ WrAt M G z a e s v sb ∧ (∀ k, N k → M k) ∧ Keep (fun _ => False) H G ∧ Row G 8 t (rowsF ((List.range n).map fun j => foundF j (readW a s j))) ∧ ∀ b o, t.p = some (b, o) → M b)
    (by
      rintro i _ R hi ⟨t, M, rfl, f1, f2, g, htl, f3⟩
      refine .inl ?_
      have hlen : decide ((i : Int) < (n : Int)) = true := decide_eq_true (by omega)
      have hsu := wrap_succ (show i < 9223372036854775807 by omega)
      let x0 : F8 := ((i : Int), 0, 0, 0, 0, 0, 0, [], ())
      let R1 : Heap := R ++ [.cells (fC x0) .exact]
      have w1 : wr (R ++ [Blk.cells [.int .i64 0, .int .i64 0, .int .i64 0, .int .u64 0, .int .i64 0, .int .i64 0, .int .i64 0, .str []] .exact]) R.length 0 [.int .i64 (i : Int), .int .i64 0, .int .i64 0, .int .u64 0, .int .i64 0, .int .i64 0, .int .i64 0, .str []] = some R1 := by
        rw [wr_last (by decide) (by simp)]; rfl
      have wR1 := f1.grow (Keep.push (fun _ => False) R (.cells (fC x0) .exact)) fun _ h => h.elim
      obtain ⟨R2, r1, r2, r3⟩ := write_Read wR1 w (k := i) (by omega)
      generalize hr : readW a s i = r at r1
      obtain ⟨tg, tx, er, u⟩ := r
      have r1' : write_Writer_Read (some (z.w, 0)) (i : Int) R1 = some ((tg, tx, er, u), R2) := r1
      let R3 : Heap := R2 ++ [.cells (tC tg) .exact]
      have w3 : wr (R2 ++ [Blk.cells [.int .i64 0, .int .u64 0, .int .i64 0, .int .i64 0, .int .i64 0] .exact]) R2.length 0 [.int .i64 tg.1, .int .u64 tg.2.1, .int .i64 tg.2.2.1, .int .i64 tg.2.2.2.1, .int .i64 tg.2.2.2.2.1] = some R3 := by
        rw [wr_last (by decide) (by simp)]; rfl
      have k2 : Keep (fun _ => False) R1 R2 := r3
      have hR1 : R1.length = R.length + 1 := by simp [R1]
      have hR2 := k2.len
      have b1 : R3[R.length]? = some (.cells (fC x0) .exact) := by
        rw [app_lt (by omega)]; exact k2.get app_last id
      have kR3 : Keep (fun _ => False) R R3 := ((Keep.push _ _ _).trans k2).trans (Keep.push _ _ _)
      by_cases h0 : er = 0
      · let x : F8 := ((i : Int), 1, tg.1, tg.2.1, tg.2.2.1, tg.2.2.2.1, tg.2.2.2.2.1, tx, ())
        have hF : foundF i (readW a s i) = x := by rw [hr]; exact if_pos h0
        have e9 : @Eq (Option T5) (rd R3 (.agg [.int .i64, .int .u64, .int .i64, .int .i64, .int .i64]) R2.length 0) (some tg) := rd_agg_of (ts := tts) app_last (Nat.le_refl 5) rfl
        have v1 : wr R3 R.length 1 [.int .i64 1] = some (R3.set R.length (.cells [.int .i64 (i : Int), .int .i64 1, .int .i64 0, .int .u64 0, .int .i64 0, .int .i64 0, .int .i64 0, .str []] .exact)) := by
          rw [wr_of b1 (by decide) (show 1 + 1 ≤ 8 by decide)]; rfl
        generalize hQ : R3.set R.length (.cells [.int .i64 (i : Int), .int .i64 1, .int .i64 0, .int .u64 0, .int .i64 0, .int .i64 0, .int .i64 0, .str []] .exact) = Q1 at v1
        have b2 : Q1[R.length]? = some (.cells [.int .i64 (i : Int), .int .i64 1, .int .i64 0, .int .u64 0, .int .i64 0, .int .i64 0, .int .i64 0, .str []] .exact) := by rw [← hQ]; exact set_get (get_lt b1)
        have b11 : Q1[R2.length]? = some (.cells (tC tg) .exact) := by rw [← hQ, set_get' (by omega)]; exact app_last
        have e11 : @Eq (Option T5) (rd Q1 (.agg [.int .i64, .int .u64, .int .i64, .int .i64, .int .i64]) R2.length 0) (some tg) := rd_agg_of (ts := tts) b11 (Nat.le_refl 5) rfl
        have v2 : wr Q1 R.length 2 [.int .i64 tg.1, .int .u64 tg.2.1, .int .i64 tg.2.2.1, .int .i64 tg.2.2.2.1, .int .i64 tg.2.2.2.2.1] = some (Q1.set R.length (.cells [.int .i64 (i : Int), .int .i64 1, .int .i64 tg.1, .int .u64 tg.2.1, .int .i64 tg.2.2.1, .int .i64 tg.2.2.2.1, .int .i64 tg.2.2.2.2.1, .str []] .exact)) := by
          rw [wr_of b2 (by decide) (show 2 + 5 ≤ 8 by decide)]; rfl
        generalize hQ2 : Q1.set R.length (.cells [.int .i64 (i : Int), .int .i64 1, .int .i64 tg.1, .int .u64 tg.2.1, .int .i64 tg.2.2.1, .int .i64 tg.2.2.2.1, .int .i64 tg.2.2.2.2.1, .str []] .exact) = Q2 at v2
        have b3 : Q2[R.length]? = some (.cells [.int .i64 (i : Int), .int .i64 1, .int .i64 tg.1, .int .u64 tg.2.1, .int .i64 tg.2.2.1, .int .i64 tg.2.2.2.1, .int .i64 tg.2.2.2.2.1, .str []] .exact) := by rw [← hQ2]; exact set_get (get_lt b2)
        have v3 : wr Q2 R.length 7 [.str tx] = some (Q2.set R.length (.cells (fC x) .exact)) := by
          rw [wr_of b3 (by decide) (show 7 + 1 ≤ 8 by decide)]; rfl
        generalize hQ3 : Q2.set R.length (.cells (fC x) .exact) = Q3 at v3
        have kQ : Keep (fun j => j = R.length) R3 Q3 := by
          rw [← hQ3, ← hQ2, ← hQ]
          exact Keep.trans (F := fun j => j = R.length) (Keep.trans (F := fun j => j = R.length) (Keep.set _ _ _ rfl) (Keep.set _ _ _ rfl)) (Keep.set _ _ _ rfl)
        have b14 : Q3[R.length]? = some (.cells (fC x) .exact) := by rw [← hQ3]; exact set_get (get_lt b3)
        have e14 : @Eq (Option F8) (rd Q3 (.agg [.int .i64, .int .i64, .int .i64, .int .u64, .int .i64, .int .i64, .int .i64, .str]) R.length 0) (some x) := (FAt.mk ⟨_, _, b14, Nat.le_refl 8, rfl⟩ : FAt Q3 R.length 0 x).all
        have kRQ : Keep (fun _ => False) R Q3 := ((kR3.mono (G := fun j => j = R.length) fun _ h => h.elim).trans kQ).new fun j hj hlt => by
          have : j = R.length := hj
          omega
        have gQ := g.stay0 kRQ
        obtain ⟨t', R5, c1, c2, c3, c4, c5, c6, c7, c8⟩ := gQ.one (bytes := 72) (new := fC x) (by decide) rfl (by omega) (by omega)
        have wQ := f1.grow kRQ fun _ h => h.elim
        have w5 := wQ.grow c5 fun j ⟨o', ho'⟩ _ => .inl (f3 j o' ho')
        refine ⟨(t', ((i + 1 : Nat) : Int), ()), R5, ?_, t', _, rfl, w5, fun k hk => .inl (.inl (f2 k hk)), ?_, by omega, ?_⟩
        · unfold law14_found.s1
          simp only [hlen, cond_t, w1, bind_some, r1', w3, decide_eq_true h0, e9, v1, e11, if_true, v2, v3, e14]
          have c1' : slRow (Q3 ++ [Blk.cells [.int .i64 x.1, .int .i64 x.2.1, .int .i64 x.2.2.1, .int .u64 x.2.2.2.1, .int .i64 x.2.2.2.2.1, .int .i64 x.2.2.2.2.2.1, .int .i64 x.2.2.2.2.2.2.1, .str x.2.2.2.2.2.2.2.1] .exact]) 8 ⟨some (Q3.length, 0), 1, 1⟩ = some (fC x) := c1
          have c2' : appS (Q3 ++ [Blk.cells [.int .i64 x.1, .int .i64 x.2.1, .int .i64 x.2.2.1, .int .u64 x.2.2.2.1, .int .i64 x.2.2.2.2.1, .int .i64 x.2.2.2.2.2.1, .int .i64 x.2.2.2.2.2.2.1, .str x.2.2.2.2.2.2.2.1] .exact]) 8 72 t 1 (fC x) = some (t', R5) := c2
          simp only [c1', bind_some, c2', hsu]
        · rw [List.range_succ, List.map_append, List.map_singleton, rowsF_one, hF]; exact c3
        · intro b o ho
          rw [c7] at ho
          have hb : c6 = b := by cases ho; rfl
          subst hb
          have h5 := c3.gr.lt c7
          exact .inr ⟨by omega, h5⟩
      · have hF : foundF i (readW a s i) = x0 := by rw [hr]; exact if_neg h0
        have e14 : @Eq (Option F8) (rd R3 (.agg [.int .i64, .int .i64, .int .i64, .int .u64, .int .i64, .int .i64, .int .i64, .str]) R.length 0) (some x0) := (FAt.mk ⟨_, _, b1, Nat.le_refl 8, rfl⟩ : FAt R3 R.length 0 x0).all
        have gQ := g.stay0 kR3
        obtain ⟨t', R5, c1, c2, c3, c4, c5, c6, c7, c8⟩ := gQ.one (bytes := 72) (new := fC x0) (by decide) rfl (by omega) (by omega)
        have wQ := f1.grow kR3 fun _ h => h.elim
        have w5 := wQ.grow c5 fun j ⟨o', ho'⟩ _ => .inl (f3 j o' ho')
        refine ⟨(t', ((i + 1 : Nat) : Int), ()), R5, ?_, t', _, rfl, w5, fun k hk => .inl (.inl (f2 k hk)), ?_, by omega, ?_⟩
        · unfold law14_found.s1
          simp only [hlen, cond_t, w1, bind_some, r1', w3, decide_eq_false h0, cond_f, e14]
          have c1' : slRow (R3 ++ [Blk.cells [.int .i64 x0.1, .int .i64 x0.2.1, .int .i64 x0.2.2.1, .int .u64 x0.2.2.2.1, .int .i64 x0.2.2.2.2.1, .int .i64 x0.2.2.2.2.2.1, .int .i64 x0.2.2.2.2.2.2.1, .str x0.2.2.2.2.2.2.2.1] .exact]) 8 ⟨some (R3.length, 0), 1, 1⟩ = some (fC x0) := c1
          have c2' : appS (R3 ++ [Blk.cells [.int .i64 x0.1, .int .i64 x0.2.1, .int .i64 x0.2.2.1, .int .u64 x0.2.2.2.1, .int .i64 x0.2.2.2.2.1, .int .i64 x0.2.2.2.2.2.1, .int .i64 x0.2.2.2.2.2.2.1, .str x0.2.2.2.2.2.2.2.1] .exact]) 8 72 t 1 (fC x0) = some (t', R5) := c2
          simp only [c1', bind_some, c2', hsu]
        · rw [List.range_succ, List.map_append, List.map_singleton, rowsF_one, hF]; exact c3
        · intro b o ho
          rw [c7] at ho
          have hb : c6 = b := by cases ho; rfl
          subst hb
          have h5 := c3.gr.lt c7
          exact .inr ⟨by omega, h5⟩)
    (by
      rintro _ R ⟨t, M, rfl, f1, f2, g, htl, f3⟩
      refine ⟨_, R, ?_, t, M, rfl, f1, f2, g.keep, g.row, f3⟩
      unfold law14_found.s1
      simp only [decide_eq_false (show ¬ ((n : Nat) : Int) < (n : Int) by omega), cond_f])
    (y := (⟨some (H.length, 0), 0, 0⟩, ((0 : Nat) : Int), ())) (H := H ++ [.cells [] .exact])
    ⟨_, fun j => N j ∨ (H.length ≤ j ∧ j < (H ++ [Blk.cells [] .exact]).length), rfl, h.grow (Keep.push (fun _ => False) H (.cells [] .exact)) fun _ h => h.elim, fun k hk => .inl hk, GrowN.em (Keep.refl _ _) 8, rfl, fun b o ho => (by cases ho; exact .inr ⟨Nat.le_refl _, by rw [List.length_append]; exact Nat.lt_succ_self _⟩)⟩
  have l1' : loopW (law14_found.s1 (some (z.w, 0)) (n : Int)) (⟨some (H.length, 0), 0, 0⟩, 0, ()) (H ++ [.cells [] .exact]) = some ((t, ()), G) := l1
  exact ⟨t, G, M, by simp only [l1', bind_some], m1, m2, m3, m4, m5⟩
end

/-! What the newest one is. -/
theorem nw_from (L : List F8) : ∀ i, i ≤ L.length → (∀ t, nw L i = some t → ∃ x ∈ L, x.2.1 = 1 ∧ x.2.2.1 = 3 ∧ tagF x = t ∧ Whole L t) ∧ ∀ x ∈ L.take i, x.2.1 = 1 → x.2.2.1 = 3 → Whole L (tagF x) → ∃ t, nw L i = some t ∧ x.2.2.2.1 ≤ t.2.1
  | 0, _ => ⟨fun t h => (by cases h), fun x h => (by simp at h)⟩
  | i + 1, hi => by
    obtain ⟨h1, h2⟩ := nw_from L i (by omega)
    rw [nw_succ L (by omega)]
    unfold nwS
    split
    · rename_i hc
      refine ⟨fun t ht => ?_, fun x hx x1 x2 x3 => ⟨_, rfl, ?_⟩⟩
      · cases ht
        exact ⟨L[i], List.getElem_mem _, hc.1, hc.2.1, rfl, hc.2.2.2⟩
      · rw [List.take_succ_eq_append_getElem (by omega)] at hx
        rcases List.mem_append.1 hx with hx | hx
        · obtain ⟨t, g1, g2⟩ := h2 x hx x1 x2 x3
          have := hc.2.2.1 t g1
          show x.2.2.2.1 ≤ L[i].2.2.2.1
          omega
        · rw [List.mem_singleton] at hx
          rw [hx]
          exact Int.le_refl _
    · rename_i hc
      refine ⟨h1, fun x hx x1 x2 x3 => ?_⟩
      rw [List.take_succ_eq_append_getElem (by omega)] at hx
      rcases List.mem_append.1 hx with hx | hx
      · exact h2 x hx x1 x2 x3
      · rw [List.mem_singleton] at hx
        rw [hx] at x1 x2 x3 ⊢
        cases hn : nw L i with
        | none => exact absurd ⟨x1, x2, fun t ht => (by rw [hn] at ht; cases ht), x3⟩ hc
        | some t =>
          refine ⟨t, rfl, ?_⟩
          by_cases hlt : t.2.1 < L[i].2.2.2.1
          · exact absurd ⟨x1, x2, fun t' ht => (by rw [hn] at ht; cases ht; exact hlt), x3⟩ hc
          · omega
end Ev

/- Chapter 14: the law's own trial. -/
namespace Ev
open Go (IntKind)

theorem read_std {a : NdA} {s : Nd} (ho : s.off = false) (hS : a.S ≤ 1000) {L : List Pg} (std : ∀ b q, q < a.P → ∀ y, L[b * a.P + q]? = some y → s.pages b q = frameB a (y.1.worn 0) y.2) {j : Nat} (hP : 0 < a.P) (hj : j < a.B * a.P) {y : Pg} (hy : L[j]? = some y) (ht : tagOK (y.1.worn 0) = true) (hq : 0 ≤ y.1.2.1 ∧ y.1.2.1 < 18446744073709551616) (hx : y.2.length ≤ a.S) :
    readW a s j = (y.1.worn 0, y.2, 0, ()) := by
  have h1 := Nat.div_add_mod j a.P
  have h2 := Nat.mod_lt j hP
  have h3 : j / a.P * a.P + j % a.P = j := by rw [Nat.mul_comm]; exact h1
  have hb : j / a.P < a.B := (Nat.div_lt_iff_lt_mul hP).2 hj
  have hp := std (j / a.P) (j % a.P) h2 y (by rw [h3]; exact hy)
  have := read_told ho hb h2 hp ht hq (by omega) hx
  rw [h3] at this
  exact this
theorem read_emp' {a : NdA} {s : Nd} {n : Nat} (emp : ∀ b q, q < a.P → n ≤ b * a.P + q → s.pages b q = []) (hP : 0 < a.P) {j : Nat} (hj : n ≤ j) : ∃ er, readW a s j = (tag0, [], er, ()) ∧ er ≠ 0 := by
  have h1 := Nat.div_add_mod j a.P
  have h2 := Nat.mod_lt j hP
  have h3 : j / a.P * a.P + j % a.P = j := by rw [Nat.mul_comm]; exact h1
  have := read_emp (s := s) h2 (emp (j / a.P) (j % a.P) h2 (by rw [h3]; exact hj))
  rw [h3] at this
  exact this
theorem foundF_no {j : Nat} {r : Tg × Bytes × Int × Unit} (h : r.2.2.1 ≠ 0) : foundF j r = ((j : Int), 0, 0, 0, 0, 0, 0, [], ()) := if_neg h
theorem foundF_yes {j : Nat} {t : Tg} {x : Bytes} : foundF j (t, x, 0, ()) = ((j : Int), 1, t.1, t.2.1, t.2.2.1, t.2.2.2.1, t.2.2.2.2.1, x, ()) := if_pos rfl

/-- All sizes that the chips of these laws have. -/
theorem awake14 : law14_awake = some (true, ()) := by
  unfold law14_awake law14_awake.on
  obtain ⟨H1, a, e, z, b1, b2, b3, ⟨hB0, hB1, hP0, hP1, hS0, hS1⟩, i0, w0⟩ := begun13n [] (0, 0, 0, ())
  have b1' : law13_Begun (0, 0, 0, ()) (⟨none, 0, 0⟩, ⟨none, 0, 0⟩, ⟨none, 0, 0⟩, ()) [] = some ((some (a.c, 0), some (z.w, 0), true, ()), H1) := b1
  let x : RecT := (5, 3, 0, 0, 0, 0, ())
  have k2 : Keep (fun _ => False) H1 (H1 ++ [.cells (rC x) .exact]) := Keep.push _ _ _
  have h2 := b2.grow k2 fun _ h => h.elim
  have row2 : Row (H1 ++ [.cells (rC x) .exact]) 6 ⟨some (H1.length, 0), 1, 1⟩ (rowsR [x]) := ⟨row_last rfl, fun h => by cases h⟩
  have hBP : 32 ≤ a.B * a.P := Nat.mul_le_mul (show 8 ≤ a.B from hB0) (show 4 ≤ a.P from hP0)
  have hpk := packF_ok 64 (by decide) [x]
  have hpl : (packF 64 [x]).length = 1 := by
    have := hpk.2.1
    have h3 : max 1 [x].length = 1 := rfl
    omega
  obtain ⟨ps, sq, er, G, M, s', v', sb', c1, c2, c3, c4, c5, c6⟩ := write_all (K := 3) (q := 7) (size := 64) (recs := [x]) h2 (OnL.new a (by omega)) w0 (by decide) row2 (by decide) ⟨by decide, hS0, by omega⟩ (.inr rfl) (by decide) (by rw [hpl]; show 0 + 1 ≤ _; omega)
  rcases c6 with ⟨rfl, hsq, d1, d2, d3, d4, _⟩ | ⟨_, m, y, _, hy, _⟩
  rotate_left
  · cases hy
  rw [hpl] at d1 d2 d4 hsq
  have hsq : sq = 8 := hsq
  subst hsq
  generalize hT : packF 64 [x] = T at *
  obtain ⟨fl, G2, M2, f1, f2, f3, f4, f5, f6⟩ := foundall_eq c2 c5 (n := 8) (by decide)
  have f1' : law14_found (some (z.w, 0)) 8 G = some ((fl, ()), G2) := f1
  have hT0 : T.getD 0 [] ∈ T := by
    have : T.getD 0 [] = T[0] := by simp [List.getD, hpl]
    rw [this]; exact List.getElem_mem _
  have hrd0 : readW a s' 0 = ((tagW 3 7 1 0).worn 0, T.getD 0 [], 0, ()) := read_std (y := (tagW 3 7 1 0, T.getD 0 [])) d4.off (by omega) d4.std (by omega) (by omega) (by rw [show ([] : List Pg) ++ pgsW 3 7 T 1 = pgsW 3 7 T 1 from rfl, pgsW_get 3 7 T (show 0 < 1 by decide), hpl]) (tagW_ok (.inr rfl) (by decide) (by decide)) (show (0 : Int) ≤ 7 ∧ (7 : Int) < 18446744073709551616 from ⟨by decide, by decide⟩) (Nat.le_trans (hpk.2.2 _ hT0) hS0)
  have hrd : ∀ j, 1 ≤ j → ∃ er, readW a s' j = (tag0, [], er, ()) ∧ er ≠ 0 := fun j hj => read_emp' (n := 1) (fun b q hq hle => d4.emp b q hq (by rw [List.length_append, pgsW_len]; exact hle)) (by omega) hj
  let x0 : F8 := (0, 1, 3, 7, 0, 1, 0, T.getD 0 [], ())
  have hF0 : foundF 0 (readW a s' 0) = x0 := by rw [hrd0]; exact foundF_yes
  have hFj : ∀ j, 1 ≤ j → (foundF j (readW a s' j)).2.1 = 0 := fun j hj => by
    obtain ⟨er, h1, h2⟩ := hrd j hj
    rw [h1, foundF_no h2]
  generalize hL : (List.range 8).map (fun j => foundF j (readW a s' j)) = L at f5
  have hone : ∀ y ∈ L, y.2.1 = 1 → y = x0 := fun y hy h1 => by
    rw [← hL] at hy
    obtain ⟨j, hj, rfl⟩ := List.mem_map.1 hy
    by_cases h0 : j = 0
    · rw [h0]; exact hF0
    · rw [hFj j (by omega)] at h1; cases h1
  have hx0 : x0 ∈ L := by
    rw [← hL]
    exact List.mem_map.2 ⟨0, by simp, hF0⟩
  have hLl : L.length = 8 := by rw [← hL]; simp
  obtain ⟨cs, G3, n1, n2, n3⟩ := newest_eq f5 (fun y hy h1 => by rw [hone y hy h1]; exact Int.le_refl 0) (fun y hy h1 => by rw [hone y hy h1]; exact ⟨Int.le_refl 1, (by decide : (1 : Int) ≤ 100000)⟩) (by omega)
  obtain ⟨p1, p2⟩ := nw_from L 8 (by omega)
  have hw : Whole L (tagF x0) := fun k hk => by
    have hk' : (k : Int) < 1 := hk
    have : k = 0 := by omega
    subst this
    exact ⟨x0, hx0, rfl, rfl⟩
  obtain ⟨t, ht, _⟩ := p2 x0 (by rw [← hLl, List.take_length]; exact hx0) rfl rfl hw
  obtain ⟨y, hy, y1, y2, y3, _⟩ := p1 t ht
  have := hone y hy y1
  subst this
  rw [hLl, ht] at n1 n3
  have n1' : ckpt_Newest fl G2 = some ((cs, true, ()), G3) := n1
  obtain ⟨n, pg, m0, m1, m2, m3, m4⟩ := n3
  rw [← y3] at m1
  have m1' : (1 : Int) = (n : Int) := m1
  have hn1 : n = 1 := by omega
  subst hn1
  obtain ⟨tx, G4, t1, t2⟩ := texts_eq m3 (by rw [List.length_map, List.length_range]; decide)
  have htl := t2.row.txt_len
  rw [List.length_map, List.length_map, List.length_range] at htl
  have dr := (d2.keep f4 fun _ _ _ h => h).keep n2 fun _ _ _ h => h
  obtain ⟨pb, po, _, g1, g2⟩ := dr.int (i := 0) (by decide)
  have g1' : Sl.at 1 ps 0 = some (pb, po + 0) := g1
  have g2' : rdI .i64 G3 pb (po + 0) = some 0 := g2
  have c1' : ckpt_Write (some (z.w, 0)) ⟨some (H1.length, 0), 1, 1⟩ 3 7 64 (H1 ++ [Blk.cells [.int .i64 5, .int .i64 3, .int .i64 0, .int .i64 0, .int .i64 0, .int .i64 0] .exact]) = some ((ps, 8, 0, ()), G) := c1
  have e1 : decide ((ps.len : Int) = 1) = true := by rw [d1]; rfl
  have e2 : decide ((cs.len : Int) = 1) = true := by rw [m2]; rfl
  have e3 : decide ((tx.len : Int) = 1) = true := by rw [htl]; rfl
  simp only [b1', bind_some, Bool.not_true, cond_f, c1', f1', n1', decide_true, cond_t, e1, g1', g2', e2, t1, e3]
end Ev

/- Chapter 14: CkptWrites. -/
namespace Ev
open Go (IntKind)

theorem good_eq {H : Heap} {s : Sl} {rows : List RecT} (hs : Row H 6 s (rowsR rows)) :
    ∃ t G K, law14_good s H = some ((t, ()), G) ∧ GrowN H G 6 t (rowsR K) ∧ K.length ≤ 30 := by
  have hl := rec_len hs
  unfold law14_good
  obtain ⟨u, G, l1, t, K, rfl, g, h1⟩ := loop_rise (step := law14_good.s1 s) (min rows.length 30) (fun i y G => ∃ t K, y = (t, (i : Int), ()) ∧ GrowN H G 6 t (rowsR K) ∧ K.length ≤ i) (fun y G => ∃ t K, y = (t, ()) ∧ GrowN H G 6 t (rowsR K) ∧ K.length ≤ 30)
    (by
      rintro i _ G hi ⟨t, K, rfl, g, hK⟩
      refine .inl ?_
      obtain ⟨b, o, a1, a2⟩ := rec_at (hs.keep g.keep fun _ _ _ h => h) (i := i) (by omega)
      generalize rows[i] = x at a2
      have hlen : decide ((i : Int) < (s.len : Int)) = true := decide_eq_true (by omega)
      have h30 : decide ((i : Int) < 30) = true := decide_eq_true (by omega)
      have hsu := wrap_succ (show i < 9223372036854775807 by omega)
      obtain ⟨bb, hb⟩ := rec_check_ok x
      have hb' : ref07_Check (x.1, x.2.1, x.2.2.1, x.2.2.2.1, x.2.2.2.2.1, x.2.2.2.2.2.1, ()) = some (bb, ()) := hb
      have htl : t.len = K.length := rec_len g.row
      cases bb with
      | true =>
        obtain ⟨t', G2, b1, b2, b3, b4, _⟩ := g.one (bytes := 48) (new := rC x) (by decide) rfl (by omega) (by omega)
        refine ⟨_, G2, ?_, t', K ++ [x], rfl, by rw [rowsR_snoc]; exact b3, by simp; omega⟩
        unfold law14_good.s1
        simp only [hlen, h30, cond_t, a1, bind_some, a2, hb', b1, b2, hsu]
      | false =>
        refine ⟨_, G, ?_, t, K, rfl, g, by omega⟩
        unfold law14_good.s1
        simp only [hlen, h30, cond_t, a1, bind_some, a2, hb', cond_f, hsu])
    (by
      rintro _ G ⟨t, K, rfl, g, hK⟩
      refine ⟨_, G, ?_, t, K, rfl, g, by omega⟩
      unfold law14_good.s1
      by_cases h : rows.length ≤ 30
      · simp only [decide_eq_false (show ¬ ((min rows.length 30 : Nat) : Int) < (s.len : Int) by omega), cond_f]
      · simp only [decide_eq_true (show ((min rows.length 30 : Nat) : Int) < (s.len : Int) by omega), cond_t, decide_eq_false (show ¬ ((min rows.length 30 : Nat) : Int) < 30 by omega), cond_f])
    (y := (⟨some (H.length, 0), 0, 0⟩, ((0 : Nat) : Int), ())) (H := H ++ [.cells [] .exact]) ⟨_, [], rfl, GrowN.em (Keep.refl _ _) 6, Nat.le_refl _⟩
  have l1' : loopW (law14_good.s1 s) (⟨some (H.length, 0), 0, 0⟩, 0, ()) (H ++ [.cells [] .exact]) = some ((t, ()), G) := l1
  exact ⟨t, G, K, by simp only [l1', bind_some], g, h1⟩

theorem CkptWrites_true (x0 : Sl) (x1 : Bool) (x2 : Int) {H : Heap} (hx0 : Came [.int .i64, .int .i64, .int .i64, .int .i64, .int .i64, .int .i64] [] x0 H) (_ : wfC (.int .u64 x2)) : ∃ H', law14_CkptWrites x0 x1 x2 H = some ((true, ()), H') := by
  unfold law14_CkptWrites
  obtain ⟨rows, lr, ll, _, _⟩ := came_rows hx0
  have lr : Row H 6 x0 (rowsR rows) := lr
  obtain ⟨H1, a, e, z, b1, b2, b3, ⟨hB0, hB1, hP0, hP1, hS0, hS1⟩, i0, w0⟩ := begun13n H (0, 0, 0, ())
  obtain ⟨t, G, K, g1, g2, hK⟩ := good_eq (lr.keep b3 fun _ _ _ h => h)
  have hG := b2.grow g2.keep fun _ h => h.elim
  obtain ⟨G2, g3, g4, g5⟩ := nand_geometry hG.nd
  have hG2 := hG.grow g5 fun _ h => h.elim
  have hBP : 32 ≤ a.B * a.P := Nat.mul_le_mul (show 8 ≤ a.B from hB0) (show 4 ≤ a.P from hP0)
  obtain ⟨kd, hkd, hk2⟩ : ∃ kd : Int, kd = (if x1 = true then 3 else 2) ∧ (kd = 2 ∨ kd = 3) := ⟨_, rfl, by split <;> simp⟩
  obtain ⟨m0, m1⟩ := and_ones (k := .u64) (x := x2) (m := 65535) 16 rfl (by decide)
  obtain ⟨q, hq⟩ : ∃ q : Nat, bitsI .and .u64 x2 65535 = (q : Int) := ⟨(bitsI .and .u64 x2 65535).toNat, (Int.toNat_of_nonneg m0).symm⟩
  rw [hq] at m1
  have row2 := g2.row.keep g5 fun _ _ _ h => h
  obtain ⟨tx, G3, p1, p2⟩ := pack_eq row2 (by omega) (size := a.S) ⟨by omega, by omega⟩
  have hG3 := hG2.grow p2.keep fun _ h => h.elim
  have row3 := row2.keep p2.keep fun _ _ _ h => h
  obtain ⟨hT1, hT2, hT3⟩ := packF_ok a.S (by omega) K
  have hTl : (packF a.S K).length ≤ 30 := by omega
  obtain ⟨ps, sq, er, G4, M, s', v', sb', c1, c2, c3, c4, c5, c6⟩ := write_all (K := kd) (q := q) (size := a.S) (recs := K) hG3 (OnL.new a (by omega)) w0 (by decide) row3 hK ⟨by omega, Nat.le_refl _, by omega⟩ hk2 (by omega) (by show 0 + _ ≤ _; omega)
  rcases c6 with ⟨rfl, hsq, d1, d2, d3, d4, _⟩ | ⟨_, m, y, _, hy, _⟩
  rotate_left
  · cases hy
  have txl := p2.row.txt_len
  generalize hT : packF a.S K = T at *
  have d2 : Row G4 1 ps (intC (ints 0 T.length)) := d2
  have d4 : OnL a s' v' 0 [] (pgsW kd q T T.length) := d4
  -- the blocks of the texts stay
  have tN : ∀ b o, tx.p = some (b, o) → b < G3.length ∧ G2.length ≤ b := fun b o ho => ⟨p2.gr.lt ho, p2.new _ ho⟩
  have rt4 : Row G4 1 tx (T.map C.str) := p2.row.keep c4 fun b o ho hn => hn (.inr ⟨(tN b o ho).2, (tN b o ho).1⟩)
  obtain ⟨u, G5, l1, rfl⟩ := loop_rise (step := law14_CkptWrites.s1 x1 ((some (a.c, 0), some (z.w, 0), true, ()), H1) ((kd, ()), G2) ((tx, ()), G3) ((ps, sq, 0, ()), G4)) T.length
    (fun i y R => y = ((seqW kd q i : Int), (i : Int), ()) ∧ WrAt M R z a e s' v' sb' ∧ Keep (fun _ => False) G4 R) (fun y _ => y = .inl ((seqW kd q T.length : Int), ()))
    (by
      rintro i _ R hi ⟨rfl, f1, f2⟩
      refine .inl ?_
      obtain ⟨pb, po, _, a1, a2⟩ := (d2.keep f2 fun _ _ _ h => h).int (i := i) (by rw [ints_len]; exact hi)
      have hpi : (ints 0 T.length)[i]'(by rw [ints_len]; exact hi) = (i : Int) := by simp [ints]
      rw [hpi] at a2
      obtain ⟨R2, r1, r2, r3⟩ := write_Read f1 c5 (k := i) (by omega)
      have hg : T.getD i [] = T[i] := by simp [List.getD, hi]
      have hrd : readW a s' i = ((tagW kd q T.length i).worn 0, T.getD i [], 0, ()) := read_std (y := (tagW kd q T.length i, T.getD i [])) d4.off (by omega) d4.std (by omega) (by omega) (pgsW_get kd q T hi) (tagW_ok hk2 hi (by omega)) (by
        have : seqW kd q i < 8589934592 := by unfold seqW; split <;> omega
        show 0 ≤ (seqW kd q i : Int) ∧ (seqW kd q i : Int) < 18446744073709551616
        omega) (by rw [hg]; exact hT3 _ (List.getElem_mem hi))
      rw [hrd, hg] at r1
      have r1' : write_Writer_Read (some (z.w, 0)) (i : Int) R = some (((kd, (seqW kd q i : Int), (i : Int), (T.length : Int), 0, ()), T[i], 0, ()), R2) := r1
      let R3 : Heap := R2 ++ [.cells [.int .i64 kd, .int .u64 (seqW kd q i : Int), .int .i64 (i : Int), .int .i64 (T.length : Int), .int .i64 0] .exact]
      have w3 : wr (R2 ++ [Blk.cells [.int .i64 0, .int .u64 0, .int .i64 0, .int .i64 0, .int .i64 0] .exact]) R2.length 0 [.int .i64 kd, .int .u64 (seqW kd q i : Int), .int .i64 (i : Int), .int .i64 (T.length : Int), .int .i64 0] = some R3 := by
        rw [wr_last (by decide) (by simp)]; rfl
      have k3 : Keep (fun _ => False) G4 R3 := (f2.trans r3).trans (Keep.push _ _ _)
      obtain ⟨tb, to, t1, t2, _⟩ := (rt4.keep k3 fun _ _ _ h => h).txt (i := i) hi
      have q0 : rdI .i64 R3 R2.length 0 = some kd := rdI_of app_last rfl
      have q1 : rdI .u64 R3 R2.length 1 = some (seqW kd q i : Int) := rdI_of app_last rfl
      have q2 : rdI .i64 R3 R2.length 2 = some (i : Int) := rdI_of app_last rfl
      have q3 : rdI .i64 R3 R2.length 3 = some (T.length : Int) := rdI_of app_last rfl
      have q4 : rdI .i64 R3 pb (po + i) = some (i : Int) := by
        obtain ⟨pb', po', _, a1', a2'⟩ := (d2.keep k3 fun _ _ _ h => h).int (i := i) (by rw [ints_len]; exact hi)
        have hh := Option.some.inj (a1.symm.trans a1')
        obtain ⟨e1, e2⟩ := Prod.mk.inj hh
        rw [hpi] at a2'
        rw [e1, e2]; exact a2'
      have hsu := wrap_succ (show i < 9223372036854775807 by omega)
      have hwq : IntKind.wrap .u64 ((seqW kd q i : Int) + 1) = ((seqW kd q i + 1 : Nat) : Int) := by
        have : seqW kd q i < 8589934592 := by unfold seqW; split <;> omega
        rw [wrap_u64]; omega
      have hdl : decide ((T.length : Int) = (ps.len : Int)) = true := decide_eq_true (by omega)
      refine ⟨((seqW kd q (i + 1) : Int), ((i + 1 : Nat) : Int), ()), R3, ?_, rfl, (r2.push _), k3⟩
      unfold law14_CkptWrites.s1
      simp only [decide_eq_true (show (i : Int) < (ps.len : Int) by omega), cond_t, a1, bind_some, a2, r1', w3, decide_true, Bool.not_true, cond_f, t1, t2, q0, q1, q2, q3, hdl, q4, hwq, hsu]
      cases x1 with
      | true =>
        have hk : kd = 3 := by rw [hkd]; rfl
        have : seqW kd q (i + 1) = seqW kd q i := by unfold seqW; rw [if_pos hk, if_pos hk]
        simp only [Bool.not_true, cond_f, this]
      | false =>
        have hk : ¬ kd = 3 := by rw [hkd]; decide
        have : seqW kd q (i + 1) = seqW kd q i + 1 := by unfold seqW; rw [if_neg hk, if_neg hk]; omega
        simp only [Bool.not_false, cond_t, this])
    (by
      rintro _ R ⟨rfl, f1, f2⟩
      refine ⟨.inl ((seqW kd q T.length : Int), ()), R, ?_, rfl⟩
      unfold law14_CkptWrites.s1
      simp only [decide_eq_false (show ¬ ((T.length : Nat) : Int) < (ps.len : Int) by omega), cond_f])
    (y := ((seqW kd q 0 : Int), ((0 : Nat) : Int), ())) (H := G4) ⟨rfl, c2, Keep.refl _ _⟩
  have hs0 : seqW kd q 0 = q := by unfold seqW; split <;> omega
  have l1' : loopW (law14_CkptWrites.s1 x1 ((some (a.c, 0), some (z.w, 0), true, ()), H1) ((kd, ()), G2) ((tx, ()), G3) ((ps, sq, 0, ()), G4)) ((q : Int), 0, ()) G4 = some (.inl ((seqW kd q T.length : Int), ()), G5) := by rw [hs0] at l1; exact l1
  have e32 : decide ((32 : Int) < (tx.len : Int)) = false := decide_eq_false (by omega)
  have epl : decide ((ps.len : Int) = (tx.len : Int)) = true := decide_eq_true (by omega)
  refine ⟨G5, ?_⟩
  cases x1 with
  | true =>
    have hk : kd = 3 := by rw [hkd]; rfl
    subst hk
    have hsl : seqW 3 q T.length = q := if_pos rfl
    have hsq' : sq = ((q + 1 : Nat) : Int) := hsq
    have hw : IntKind.wrap .u64 ((q : Int) + 1) = ((q + 1 : Nat) : Int) := by rw [wrap_u64]; omega
    rw [hsl, hsq'] at l1'
    simp only [b1, bind_some, awake14, Bool.not_true, cond_f, g1, g3, cond_t, p1, hq, c1, e32, decide_true, epl, l1', sum0, hw, hsq']
  | false =>
    have hk : kd = 2 := by rw [hkd]; rfl
    subst hk
    have hsl : seqW 2 q T.length = q + T.length := if_neg (by decide)
    have hsq' : sq = ((q + T.length : Nat) : Int) := hsq
    rw [hsl, hsq'] at l1'
    simp only [b1, bind_some, awake14, Bool.not_true, cond_f, g1, g3, p1, hq, c1, e32, decide_true, epl, l1', sum0, hsq']
end Ev

/- A page in which the power failed has the number that was being written, or none. -/
namespace Ev
open Go (IntKind)

/-- The number that stands in a page, and the count beside it. -/
def numV (v : Int × Tg × Bytes × Unit) : Option (Int × Int) := if v.1 = 1 ∧ v.2.1.1 = 1 ∧ v.2.1.2.1 ≤ 1073741824 then some (v.2.1.2.1, v.2.1.2.2.2.2.1) else none
def numT (m w : Int) : Tg := (1, m, 0, 1, w, ())
theorem numT_ok {m w : Int} (hw : 0 ≤ w ∧ w < 4294967296) : tagOK (numT m w) = true := by
  apply decide_eq_true
  simp only [numT]
  omega
theorem num_frame {a : NdA} {m w : Int} (hm : 0 ≤ m ∧ m ≤ 1073741824) (hw : 0 ≤ w ∧ w < 4294967296) (hS : a.S < 65536) : numV (viewB a (frameB a (numT m w) [])) = some (m, w) := by
  rw [view_frame (numT_ok hw) (by simp only [numT]; omega) hS (by simp)]
  unfold numV numT
  simp [hm.2]

theorem row_get {t : Tg} {n : Nat} {j : Nat} (h : 19 ≤ j) (h2 : j < 28) : (rowOf t n)[j]? = some 0 := by
  unfold rowOf
  have hl : (leB 1 t.1.toNat ++ leB 8 t.2.1.toNat ++ leB 2 t.2.2.1.toNat ++ leB 2 t.2.2.2.1.toNat ++ leB 4 t.2.2.2.2.1.toNat ++ leB 2 n).length = 19 := by simp [leB_length]
  rw [List.getElem?_append_right (by rw [hl]; exact h), hl, zerosB, List.getElem?_replicate, if_pos (by omega)]
theorem whole_facts {d b : Bytes} (h : whole d b = true) : b.length = 32 ∧ b[27]? = some 0 ∧ tagOK (tagOf b) = true ∧ spareOf (tagOf b) (d.take (longOf b)) d.length = b := by
  obtain ⟨h1, _, h3, _, _, h6⟩ := of_decide_eq_true h
  refine ⟨h1, ?_, h3, h6⟩
  rw [← h6]
  unfold spareOf
  rw [List.getElem?_append_left (by rw [rowOf_length]; decide)]
  exact row_get (by decide) (by decide)

theorem torn_drop {T sp D : Bytes} {k S : Nat} {f : UInt8} (hT : T = D ++ sp) (hD : D.length = S) (hk : k ≤ T.length) : (T.take k ++ List.replicate (T.length - k) f).drop S = sp.take (k - S) ++ List.replicate (sp.length - (k - S)) f := by
  subst hT
  rw [List.length_append] at hk
  by_cases h : S ≤ k
  · rw [List.drop_append, List.length_take, List.length_append, List.take_append, List.drop_append, hD]
    rw [List.take_of_length_le (show D.length ≤ k by omega), List.drop_eq_nil_of_le (show D.length ≤ S by omega), hD, Nat.sub_self, List.drop_zero, List.nil_append, show S - min k (S + sp.length) = 0 by omega, List.drop_zero]
    congr 2
    omega
  · rw [List.drop_append, List.drop_eq_nil_of_le (by simp; omega), List.nil_append, List.drop_replicate, show k - S = 0 by omega, List.take_zero, List.nil_append, List.length_take, List.length_append]
    congr 1
    omega

theorem valB_mono : ∀ {x y : Bytes}, x.length = y.length → (∀ i : Nat, ∀ c e : UInt8, x[i]? = some c → y[i]? = some e → c.toNat ≤ e.toNat) → valB x ≤ valB y
  | [], [], _, _ => Nat.le_refl _
  | c :: x, e :: y, hl, h => by
    have h0 := h 0 c e rfl rfl
    have ih := valB_mono (x := x) (y := y) (by simpa using hl) fun i c e h1 h2 => h (i + 1) c e (by simpa using h1) (by simpa using h2)
    rw [valB, valB]; omega
  | [], _ :: _, h, _ => by simp at h
  | _ :: _, [], h, _ => by simp at h

theorem fld_take {b c : Bytes} {j o n : Nat} (h : b.take j = c.take j) (hj : o + n ≤ j) : fld b o n = fld c o n := by
  unfold fld
  have e : ∀ x : Bytes, (x.drop o).take n = ((x.take j).drop o).take n := by
    intro x
    rw [List.drop_take, List.take_take, show min n (j - o) = n by omega]
  rw [e b, e c, h]

/-- The bytes beside, of which the first are right and the rest is filled. -/
theorem torn_spare {d sp : Bytes} {S j : Nat} {f : UInt8} {m w : Int} (hm : 0 ≤ m ∧ m < 18446744073709551616) (hw : 0 ≤ w ∧ w < 4294967296) (hS : S < 65536) (hsp : sp = spareOf (numT m w) [] S) (hj : j ≤ 32)
    (h : whole d (sp.take j ++ List.replicate (sp.length - j) f) = true) : (tagOf (sp.take j ++ List.replicate (sp.length - j) f)).2.1 = m ∧ 0 ≤ (tagOf (sp.take j ++ List.replicate (sp.length - j) f)).2.2.2.2.1 ∧ (tagOf (sp.take j ++ List.replicate (sp.length - j) f)).2.2.2.2.1 ≤ w := by
  have hlen : sp.length = 32 := by rw [hsp]; exact spareOf_length _ _ _
  obtain ⟨f1, f2, f3, _⟩ := whole_facts h
  have htag : tagOf sp = numT m w := by rw [hsp]; exact (tagOf_spare' (numT_ok hw) (by simp only [numT]; omega) hS (by simp)).1
  have hbt : (sp.take j ++ List.replicate (sp.length - j) f).take j = sp.take j := List.take_left' (by rw [List.length_take]; omega)
  have hget : ∀ i, j ≤ i → i < 32 → (sp.take j ++ List.replicate (sp.length - j) f)[i]? = some f := by
    intro i h1 h2
    rw [List.getElem?_append_right (by rw [List.length_take]; omega), List.length_take, List.getElem?_replicate, if_pos (by omega)]
  have hgetl : ∀ i, i < j → (sp.take j ++ List.replicate (sp.length - j) f)[i]? = sp[i]? := by
    intro i h1
    rw [List.getElem?_append_left (by rw [List.length_take]; omega), List.getElem?_take, if_pos h1]
  generalize hb : sp.take j ++ List.replicate (sp.length - j) f = b at *
  have e1 : fld sp 1 8 = m.toNat := by
    have := congrArg (fun t : Tg => t.2.1) htag
    simp only [tagOf, numT] at this
    omega
  have e2 : fld sp 13 4 = w.toNat := by
    have := congrArg (fun t : Tg => t.2.2.2.2.1) htag
    simp only [tagOf, numT] at this
    omega
  have hj12 : 12 ≤ j := by
    by_cases h12 : 12 ≤ j
    · exact h12
    · exfalso
      have hf0 : f = 0 := by
        have := hget 27 (by omega) (by decide)
        rw [f2] at this
        exact (Option.some.inj this).symm
      have hof : fld b 11 2 = 0 := by
        have hl : b.length = 32 := f1
        have g1 : b[11]? = some 0 := by rw [hget 11 (by omega) (by decide), hf0]
        have g2 : b[12]? = some 0 := by rw [hget 12 (by omega) (by decide), hf0]
        unfold fld
        have ed : (b.drop 11).take 2 = [0, 0] := by
          apply List.ext_getElem?
          intro i
          match i with
          | 0 => rw [List.getElem?_take, if_pos (by decide), List.getElem?_drop, g1]; rfl
          | 1 => rw [List.getElem?_take, if_pos (by decide), List.getElem?_drop, g2]; rfl
          | i + 2 => rw [List.getElem?_take, if_neg (by omega)]; rfl
        rw [ed]; rfl
      have := of_decide_eq_true f3
      simp only [tagOf] at this
      rw [hof] at this
      omega
  have h18 : fld b 1 8 = m.toNat := by rw [fld_take hbt (by omega)]; exact e1
  have h134 : fld b 13 4 ≤ w.toNat := by
    rw [← e2]
    unfold fld
    refine valB_mono ?_ ?_
    · rw [List.length_take, List.length_take, List.length_drop, List.length_drop, f1, hlen]
    · intro i c e g1 g2
      rw [List.getElem?_take] at g1 g2
      by_cases hi : i < 4
      · rw [if_pos hi, List.getElem?_drop] at g1 g2
        by_cases hij : 13 + i < j
        · rw [hgetl _ hij, g2] at g1
          cases g1; exact Nat.le_refl _
        · rw [hget _ (by omega) (by omega)] at g1
          cases g1
          have hf0 : f = 0 := by
            have := hget 27 (by omega) (by decide)
            rw [f2] at this
            exact (Option.some.inj this).symm
          rw [hf0]; exact Nat.zero_le _
      · rw [if_neg hi] at g1; cases g1
  simp only [tagOf]
  omega

theorem torn_num {a : NdA} {x : Cut} {m w : Int} (hm : 0 ≤ m ∧ m ≤ 1073741824) (hw : 0 ≤ w ∧ w < 4294967296) (hS : a.S < 65536) :
    numV (viewB a (tornB x (frameB a (numT m w) []))) = none ∨ ∃ w', numV (viewB a (tornB x (frameB a (numT m w) []))) = some (m, w') ∧ 0 ≤ w' ∧ w' ≤ w := by
  have hT := frameB_length (a := a) (t := numT m w) (s := []) (by simp)
  have hd : (tornB x (frameB a (numT m w) [])).drop a.S = (spareOf (numT m w) [] a.S).take (min x.2.1.toNat (frameB a (numT m w) []).length - a.S) ++ List.replicate ((spareOf (numT m w) [] a.S).length - (min x.2.1.toNat (frameB a (numT m w) []).length - a.S)) (UInt8.ofNat x.2.2.1.toNat) := by
    unfold tornB
    exact torn_drop (D := dataOf [] a.S) rfl (dataOf_length (by simp)) (by omega)
  unfold viewB lookP
  split
  · left; rfl
  · split
    · rename_i hw'
      rw [hd] at hw' ⊢
      have := torn_spare (d := (tornB x (frameB a (numT m w) [])).take a.S) (sp := spareOf (numT m w) [] a.S) (S := a.S) (j := min x.2.1.toNat (frameB a (numT m w) []).length - a.S) (f := UInt8.ofNat x.2.2.1.toNat) (m := m) (w := w) ⟨hm.1, by omega⟩ hw hS rfl (by rw [hT]; omega) hw'
      generalize (spareOf (numT m w) [] a.S).take (min x.2.1.toNat (frameB a (numT m w) []).length - a.S) ++ List.replicate ((spareOf (numT m w) [] a.S).length - (min x.2.1.toNat (frameB a (numT m w) []).length - a.S)) (UInt8.ofNat x.2.2.1.toNat) = b at this ⊢
      obtain ⟨g1, g2, g3⟩ := this
      unfold numV
      split
      · right
        exact ⟨_, by rw [g1], g2, g3⟩
      · left; rfl
    · left; rfl

/-- A page of which all bytes are alike has no number. -/
theorem fill_num {a : NdA} {f : UInt8} : numV (viewB a (List.replicate (a.S + 32) f)) = none := by
  unfold viewB lookP
  split
  · rfl
  · split
    · rename_i hw
      exfalso
      obtain ⟨f1, f2, f3, _⟩ := whole_facts hw
      have hd : (List.replicate (a.S + 32) f).drop a.S = List.replicate 32 f := by rw [List.drop_replicate]; congr 1; omega
      rw [hd] at f2 f3
      have hf0 : f = 0 := by
        rw [List.getElem?_replicate, if_pos (by decide)] at f2
        exact Option.some.inj f2
      subst hf0
      revert f3
      decide
    · rfl
end Ev

/- Chapter 14: a page in which the power failed. -/
namespace Ev
open Go (IntKind)

/-- What is read of it is its own tag, or nothing. -/
theorem torn_tag {d sp : Bytes} {S j : Nat} {f : UInt8} {K q i n : Nat} {x : Bytes} (hK : K = 2 ∨ K = 3) (hq : q < 18446744073709551616) (hi : i < n) (hn : n < 256) (hS : S < 65536) (hx : x.length ≤ S) (hsp : sp = spareOf ((K : Int), (q : Int), (i : Int), (n : Int), 0, ()) x S) (hj : j ≤ 32)
    (h : whole d (sp.take j ++ List.replicate (sp.length - j) f) = true) : tagOf (sp.take j ++ List.replicate (sp.length - j) f) = ((K : Int), (q : Int), (i : Int), (n : Int), 0, ()) := by
  have hlen : sp.length = 32 := by rw [hsp]; exact spareOf_length _ _ _
  obtain ⟨f1, f2, f3, _⟩ := whole_facts h
  have hok : tagOK ((K : Int), (q : Int), (i : Int), (n : Int), 0, ()) = true := decide_eq_true (by
    show 1 ≤ (K : Int) ∧ (K : Int) ≤ 3 ∧ 1 ≤ (n : Int) ∧ (n : Int) < 65536 ∧ 0 ≤ (i : Int) ∧ (i : Int) < (n : Int) ∧ (0 : Int) ≤ 0 ∧ (0 : Int) < 4294967296
    omega)
  have htag : tagOf sp = ((K : Int), (q : Int), (i : Int), (n : Int), 0, ()) := by rw [hsp]; exact (tagOf_spare' hok (by show 0 ≤ (q : Int) ∧ (q : Int) < 18446744073709551616; omega) hS hx).1
  have hbt : (sp.take j ++ List.replicate (sp.length - j) f).take j = sp.take j := List.take_left' (by rw [List.length_take]; omega)
  have hget : ∀ i, j ≤ i → i < 32 → (sp.take j ++ List.replicate (sp.length - j) f)[i]? = some f := by
    intro i h1 h2
    rw [List.getElem?_append_right (by rw [List.length_take]; omega), List.length_take, List.getElem?_replicate, if_pos (by omega)]
  have hgetl : ∀ i, i < j → (sp.take j ++ List.replicate (sp.length - j) f)[i]? = sp[i]? := by
    intro i h1
    rw [List.getElem?_append_left (by rw [List.length_take]; omega), List.getElem?_take, if_pos h1]
  generalize hb : sp.take j ++ List.replicate (sp.length - j) f = b at *
  have e0 : fld sp 0 1 = K := by
    have := congrArg (fun t : Tg => t.1) htag
    simp only [tagOf] at this
    omega
  have e1 : fld sp 1 8 = q := by
    have := congrArg (fun t : Tg => t.2.1) htag
    simp only [tagOf] at this
    omega
  have e2 : fld sp 9 2 = i := by
    have := congrArg (fun t : Tg => t.2.2.1) htag
    simp only [tagOf] at this
    omega
  have e3 : fld sp 11 2 = n := by
    have := congrArg (fun t : Tg => t.2.2.2.1) htag
    simp only [tagOf] at this
    omega
  have e4 : fld sp 13 4 = 0 := by
    have := congrArg (fun t : Tg => t.2.2.2.2.1) htag
    simp only [tagOf] at this
    omega
  have hzero : j < 28 → f = 0 := by
    intro hj28
    have := hget 27 (by omega) (by decide)
    rw [f2] at this
    exact (Option.some.inj this).symm
  have hj12 : 12 ≤ j := by
    by_cases h12 : 12 ≤ j
    · exact h12
    · exfalso
      have hf0 : f = 0 := hzero (by omega)
      have hof : fld b 11 2 = 0 := by
        have g1 : b[11]? = some 0 := by rw [hget 11 (by omega) (by decide), hf0]
        have g2 : b[12]? = some 0 := by rw [hget 12 (by omega) (by decide), hf0]
        unfold fld
        have ed : (b.drop 11).take 2 = [0, 0] := by
          apply List.ext_getElem?
          intro i
          match i with
          | 0 => rw [List.getElem?_take, if_pos (by decide), List.getElem?_drop, g1]; rfl
          | 1 => rw [List.getElem?_take, if_pos (by decide), List.getElem?_drop, g2]; rfl
          | i + 2 => rw [List.getElem?_take, if_neg (by omega)]; rfl
        rw [ed]; rfl
      have := of_decide_eq_true f3
      simp only [tagOf] at this
      rw [hof] at this
      omega
  have mono : ∀ o m, o + m ≤ 28 → fld b o m ≤ fld sp o m := by
    intro o m hom
    unfold fld
    refine valB_mono ?_ ?_
    · rw [List.length_take, List.length_take, List.length_drop, List.length_drop, f1, hlen]
    · intro i c e g1 g2
      rw [List.getElem?_take] at g1 g2
      by_cases hi : i < m
      · rw [if_pos hi, List.getElem?_drop] at g1 g2
        by_cases hij : o + i < j
        · rw [hgetl _ hij, g2] at g1
          cases g1; exact Nat.le_refl _
        · rw [hget _ (by omega) (by omega)] at g1
          cases g1
          rw [hzero (by omega)]; exact Nat.zero_le _
      · rw [if_neg hi] at g1; cases g1
  have h3 : fld b 11 2 = n := by
    -- the low byte is kept, the high byte is 0 anyway
    have two : ∀ c : Bytes, c.length = 32 → ∃ u w : UInt8, c[11]? = some u ∧ c[12]? = some w ∧ fld c 11 2 = u.toNat + 256 * w.toNat := by
      intro c hc
      have g1 : c[11]? = some (c[11]'(by omega)) := List.getElem?_eq_getElem (by omega)
      have g2 : c[12]? = some (c[12]'(by omega)) := List.getElem?_eq_getElem (by omega)
      refine ⟨_, _, g1, g2, ?_⟩
      unfold fld
      have ed : (c.drop 11).take 2 = [c[11]'(by omega), c[12]'(by omega)] := by
        apply List.ext_getElem?
        intro i
        match i with
        | 0 => rw [List.getElem?_take, if_pos (by decide), List.getElem?_drop, g1]; rfl
        | 1 => rw [List.getElem?_take, if_pos (by decide), List.getElem?_drop, g2]; rfl
        | i + 2 => rw [List.getElem?_take, if_neg (by omega)]; rfl
      rw [ed, valB, valB, valB]
      omega
    obtain ⟨u, w, u1, u2, u3⟩ := two b f1
    obtain ⟨u', w', v1, v2, v3⟩ := two sp hlen
    have hu : u = u' := by
      rw [hgetl 11 (by omega), v1] at u1
      exact (Option.some.inj u1).symm
    have hm := mono 11 2 (by decide)
    subst hu
    have hw' : w'.toNat = 0 := by omega
    omega
  have e0' : fld b 0 1 = K := by rw [fld_take hbt (by omega)]; exact e0
  have e1' : fld b 1 8 = q := by rw [fld_take hbt (by omega)]; exact e1
  have e2' : fld b 9 2 = i := by rw [fld_take hbt (by omega)]; exact e2
  have e4' : fld b 13 4 = 0 := by have := mono 13 4 (by decide); omega
  unfold tagOf
  rw [e0', e1', e2', h3, e4']
  rfl
theorem read_torn {a : NdA} {s : Nd} {b q : Nat} (ho : s.off = false) (hb : b < a.B) (hq : q < a.P) {T : Bytes} (hT : T.length = a.S + 32) (hp : s.pages b q = if T = fullP a then [] else T) :
    (∃ er, readW a s (b * a.P + q) = (tag0, [], er, ()) ∧ er ≠ 0) ∨ ∃ x, readW a s (b * a.P + q) = (tagOf (T.drop a.S), x, 0, ()) ∧ whole (T.take a.S) (T.drop a.S) = true := by
  by_cases hf : T = fullP a
  · rw [if_pos hf] at hp
    exact .inl (read_emp hq hp)
  · rw [if_neg hf] at hp
    obtain ⟨e1, e2⟩ := divP b q a.P hq
    have h0 : s.inE a (b : Int) (q : Int) = 0 := inE_yes ho hb hq
    have hr : s.readT a (b : Int) (q : Int) = (T.take a.S, T.drop a.S, 0, ()) := by
      unfold Nd.readT
      rw [if_neg (by rw [h0]; simp), Int.toNat_natCast, Int.toNat_natCast]
      unfold Nd.read
      rw [if_neg (by rw [hp]; intro hh; rw [hh] at hT; simp at hT), hp]
    unfold readW
    rw [e1, e2, hr]
    simp only [if_true]
    by_cases h1 : (lookP (T.take a.S) (T.drop a.S)).1 = 1
    · right
      rw [if_pos h1]
      unfold lookP at h1 ⊢
      split
      · rename_i hc
        rw [if_pos hc] at h1; exact absurd h1 (by decide)
      · rename_i hc
        rw [if_neg hc] at h1
        split
        · rename_i hw
          exact ⟨_, rfl, hw⟩
        · rename_i hw
          rw [if_neg hw] at h1; exact absurd h1 (by decide)
    · left
      rw [if_neg h1]
      exact ⟨3, rfl, by decide⟩
theorem read_cut {a : NdA} {s : Nd} {b q : Nat} (ho : s.off = false) (hb : b < a.B) (hq : q < a.P) (hS : a.S ≤ 1000) {y : Cut} {Q i n : Nat} (hQ : Q < 4294967296) (hi : i < n) (hn : n < 256) {x : Bytes} (hx : x.length ≤ a.S) (hp : s.pages b q = if tornB y (frameB a (tagW 3 Q n i) x) = fullP a then [] else tornB y (frameB a (tagW 3 Q n i) x)) :
    (∃ er, readW a s (b * a.P + q) = (tag0, [], er, ()) ∧ er ≠ 0) ∨ ∃ x, readW a s (b * a.P + q) = (tagW 3 Q n i, x, 0, ()) := by
  have hseq : seqW 3 Q i = Q := if_pos rfl
  have htg : tagW 3 Q n i = (((3 : Nat) : Int), (Q : Int), (i : Int), (n : Int), 0, ()) := by unfold tagW; rw [hseq]; rfl
  have hfl := frameB_length (a := a) (t := tagW 3 Q n i) (s := x) hx
  rcases read_torn ho hb hq (T := tornB y (frameB a (tagW 3 Q n i) x)) (by rw [tornB_length, hfl]) hp with h | ⟨x', h1, h2⟩
  · exact .inl h
  · right
    refine ⟨x', ?_⟩
    rw [h1]
    have hd : (tornB y (frameB a (tagW 3 Q n i) x)).drop a.S = (spareOf (tagW 3 Q n i) x a.S).take (min y.2.1.toNat (frameB a (tagW 3 Q n i) x).length - a.S) ++ List.replicate ((spareOf (tagW 3 Q n i) x a.S).length - (min y.2.1.toNat (frameB a (tagW 3 Q n i) x).length - a.S)) (UInt8.ofNat y.2.2.1.toNat) := by
      unfold tornB
      exact torn_drop (D := dataOf x a.S) rfl (dataOf_length hx) (by omega)
    rw [hd] at h2 ⊢
    have := torn_tag (d := (tornB y (frameB a (tagW 3 Q n i) x)).take a.S) (sp := spareOf (tagW 3 Q n i) x a.S) (S := a.S) (j := min y.2.1.toNat (frameB a (tagW 3 Q n i) x).length - a.S) (f := UInt8.ofNat y.2.2.1.toNat) (K := 3) (.inr rfl) (q := Q) (by omega) hi hn (by omega) hx (by rw [htg]) (by rw [hfl]; omega) h2
    rw [this, htg]
/-- All of it was kept. -/
theorem torn_all {y : Cut} {T : Bytes} (h : (T.length : Int) ≤ y.2.1) : tornB y T = T := by
  unfold tornB
  rw [Nat.min_eq_right (by omega), List.take_length, Nat.sub_self]
  simp
end Ev
