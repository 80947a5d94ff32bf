/- Chapter 13: what was told as written, act by act. -/
import Derived.Test.YtloijdlakkmjgaaSLaw13F
import Derived.Test.YtloijdlakkmjgaaSCame
namespace Ev
open Go (IntKind)

/-- What was told stands. -/
def Told (a : NdA) (s : Nd) (hv : Nat → Bool) (sd : Nat → Bytes) : Prop :=
  ∀ b q, b < a.B → q < a.P → hv (b * a.P + q) = true → (sd (b * a.P + q)).length ≤ a.S ∧ ∃ t, tagOK t = true ∧ 0 ≤ t.2.1 ∧ t.2.1 < 18446744073709551616 ∧ s.pages b q = frameB a t (sd (b * a.P + q))
theorem at_inj {P b q b' q' : Nat} (hq : q < P) (hq' : q' < P) (h : b * P + q = b' * P + q') : b = b' ∧ q = q' := by
  have h1 := divP b q P hq
  have h2 := divP b' q' P hq'
  rw [h] at h1
  omega
theorem Told.no {a : NdA} {s : Nd} {hv : Nat → Bool} {sd : Nat → Bytes} (h : Told a s hv sd) {b q : Nat} (hb : b < a.B) (hq : q < a.P) (hp : s.pages b q = []) : hv (b * a.P + q) = false := by
  cases hh : hv (b * a.P + q) with
  | false => rfl
  | true =>
    obtain ⟨h1, t, _, _, _, h2⟩ := h b q hb hq hh
    rw [hp] at h2
    have := frameB_length (t := t) h1
    rw [← h2] at this
    simp at this
theorem Told.moved {a : NdA} {s s' : Nd} {hv : Nat → Bool} {sd : Nat → Bytes} (h : Told a s hv sd) {b q : Nat} (hb : b < a.B) (hq : q < a.P) (hp : s.pages b q = []) (hs : ∀ k r, ¬ (k = b ∧ r = q) → s'.pages k r = s.pages k r) : Told a s' hv sd := by
  intro b1 q1 hb1 hq1 hh
  have hne : ¬ (b1 = b ∧ q1 = q) := fun ⟨e1, e2⟩ => by
    subst e1; subst e2
    rw [h.no hb hq hp] at hh
    cases hh
  rw [hs b1 q1 hne]
  exact h b1 q1 hb1 hq1 hh
theorem told_app {a : NdA} {e : LfA} {t : Tg} {x : Bytes} {s s' : Nd} {v v' : Wr} {p er : Int} (r : AppR a e t x s v s' v' p er) {hv : Nat → Bool} {sd : Nat → Bytes} (h : Told a s hv sd) (hw : ∀ j, j < a.B → 0 ≤ v.worn j ∧ v.worn j ≤ 1000000)
    (ht : ∀ n : Int, 0 ≤ n → n ≤ 1000000 → tagOK (t.worn n) = true) (hseq : 0 ≤ t.2.1 ∧ t.2.1 < 18446744073709551616) (hx : x.length ≤ a.S) :
    (er = 130 ∧ Told a s' hv sd) ∨ (er = 0 ∧ ∃ b q, b < a.B ∧ q < a.P ∧ p = ((b * a.P + q : Nat) : Int) ∧ hv (b * a.P + q) = false ∧ Told a s' (upd hv (b * a.P + q) true) (upd sd (b * a.P + q) x)) := by
  induction r with
  | full h1 h2 => exact .inl ⟨rfl, h⟩
  | @good s v v1 b hit hf =>
    have hp := hit.hq _ (Nat.le_refl _) hit.hn
    refine .inr ⟨rfl, b, v1.lf.nx, hit.hb, hit.hn, rfl, h.no hit.hb hit.hn hp, fun b1 q1 hb1 hq1 hh => ?_⟩
    by_cases he : b1 = b ∧ q1 = v1.lf.nx
    · obtain ⟨rfl, rfl⟩ := he
      have hwb := hw b1 hb1
      have hsd : upd sd (b1 * a.P + v1.lf.nx) x (b1 * a.P + v1.lf.nx) = x := by simp [upd]
      rw [hsd]
      exact ⟨hx, t.worn (v1.worn b1), ht _ (by rw [hit.worn]; exact hwb.1) (by rw [hit.worn]; exact hwb.2), hseq.1, hseq.2, lay_here hx⟩
    · have hk : ¬ b1 * a.P + q1 = b * a.P + v1.lf.nx := fun e => he (at_inj hq1 hit.hn e)
      have hhv : upd hv (b * a.P + v1.lf.nx) true (b1 * a.P + q1) = hv (b1 * a.P + q1) := by unfold upd; rw [if_neg hk]
      have hsd : upd sd (b * a.P + v1.lf.nx) x (b1 * a.P + q1) = sd (b1 * a.P + q1) := by unfold upd; rw [if_neg hk]
      rw [hhv] at hh
      rw [hsd, lay_there he]
      exact h b1 q1 hb1 hq1 hh
  | @fail s s' v v1 v' b p er hit hf _ ih =>
    have hp := hit.hq _ (Nat.le_refl _) hit.hn
    refine ih (h.moved hit.hb hit.hn hp fun k r hne => ?_) (fun j hj => by
      have := hw j hj
      show 0 ≤ v1.worn j ∧ v1.worn j ≤ 1000000
      rw [hit.worn]; exact this)
    show (({ s.acted with dead := upd s.dead b true } : Nd).lay a b v1.lf.nx (List.replicate (a.S + 32) 0)).pages k r = s.pages k r
    rw [lay_there hne]; rfl
section
variable {N : Nat → Prop} {H : Heap} {z : WrA} {a : NdA} {e : LfA} {s : Nd} {v : Wr} {sb : Sl} {D : Int}
/-- A block is erased, or fails. -/
theorem erase_any (h : WrAt N H z a e s v sb) (i : WInv a s v) (w : Wf a s D) (hD : D + 100 ≤ 1000000) (hbad : v.bad.length ≤ 100000) (hw : ∀ j, j < a.B → 0 ≤ v.worn j ∧ v.worn j < 1000000) {b : Nat} (hb : b < a.B) (hl3 : v.lf.l b ≠ 3) :
    ∃ H' s' v' sb', write_Writer_Erase (some (z.w, 0)) (b : Int) H = some ((0, ()), H') ∧ WrAt N H' z a e s' v' sb' ∧ Keep (fun k => ¬ N k) H H' ∧ WInv a s' v' ∧ Wf a s' (D + 3) ∧ (∀ j, v.worn j ≤ v'.worn j ∧ v'.worn j ≤ v.worn j + 1) ∧ v'.bad.length ≤ v.bad.length + 1 ∧
      ((v'.lf.l b = 3 ∧ s'.pages = s.pages) ∨ (v'.lf.l b = 0 ∧ ∀ j q, s'.pages j q = if j = b ∧ q < a.P then [] else s.pages j q)) := by
  obtain ⟨eB, eP⟩ := h.eB
  have hsz := w.sz
  have hwb := hw b hb
  have hd : s.dead b = false := by
    cases hd : s.dead b with
    | false => rfl
    | true => exact absurd (i.dead b hb hd) hl3
  obtain ⟨H', sb', c1, c2, c3⟩ := write_Erase h w (by omega) (i := b) (by omega) (i.kind b hb).1 (by omega) (by omega)
  have he := erase_calm (v := v) i.cuts i.off hb (by omega) hd
  have wd := w.did
  have hww := w.worn
  by_cases hf : s.failNow = true
  · rw [if_pos hf] at he
    rw [he] at c1 c2
    refine ⟨H', _, _, sb', c1, c2, c3, ?_, ?_, fun j => ⟨Int.le_refl _, by show v.worn j ≤ v.worn j + 1; omega⟩, by show (v.bad ++ [(b : Int)]).length ≤ _; simp, .inl ⟨?_, rfl⟩⟩
    · refine WInv.spoilt i.cuts i.off hb hl3 i.kind ?_ (fun j hj hj0 _ => i.free j hj hj0) (fun j hj hjd hjb => ?_) (fun j hj hj1 _ => i.one j hj hj1)
      · rcases i.op with hh | hh
        · exact .inl hh
        · exact .inr (.inr hh)
      · have h' : upd s.dead b true j = true := hjd
        unfold upd at h'
        rw [if_neg hjb] at h'
        exact i.dead j hj h'
    · exact ⟨by show 0 ≤ s.did + 1 + 1 ∧ s.did + 1 + 1 ≤ D + 3; omega, fun c => by
        have h1 := hww b
        have h2 := hww c
        show 0 ≤ upd s.worn b (s.worn b + 1) c ∧ upd s.worn b (s.worn b + 1) c ≤ D + 3
        unfold upd
        split <;> omega, w.cuts, w.fine, by omega, w.sz⟩
    · show (v.lf.set b 3).l b = 3
      unfold Lf.set
      rw [if_neg hl3]
      simp [upd]
  · rw [if_neg hf] at he
    rw [he] at c1 c2
    have w1 : Wf a ({ s with did := s.did + 1, worn := upd s.worn b (s.worn b + 1) } : Nd) (D + 3) := ⟨by show 0 ≤ s.did + 1 ∧ s.did + 1 ≤ D + 3; omega, fun c => by
        have h1 := hww b
        have h2 := hww c
        show 0 ≤ upd s.worn b (s.worn b + 1) c ∧ upd s.worn b (s.worn b + 1) c ≤ D + 3
        unfold upd
        split <;> omega, w.cuts, w.fine, by omega, w.sz⟩
    refine ⟨H', _, _, sb', c1, c2, c3, i.erased hb hl3 _ _ _, w1.clear _ _, fun j => ?_, by show v.bad.length ≤ _; omega, .inr ⟨?_, fun j q => rfl⟩⟩
    · show v.worn j ≤ upd v.worn b (v.worn b + 1) j ∧ upd v.worn b (v.worn b + 1) j ≤ v.worn j + 1
      unfold upd
      split
      · rename_i hh; subst hh; omega
      · omega
    · show (v.lf.set b 0).l b = 0
      unfold Lf.set
      rw [if_neg hl3]
      simp [upd]
end
/-- Pages of a block are no more told. -/
def upTo (hv : Nat → Bool) (lo n : Nat) : Nat → Bool := fun k => if lo ≤ k ∧ k < lo + n then false else hv k
theorem Told.erased {a : NdA} {s s' : Nd} {hv : Nat → Bool} {sd : Nat → Bytes} (h : Told a s hv sd) {b : Nat} (hp : ∀ j q, s'.pages j q = if j = b ∧ q < a.P then [] else s.pages j q) : Told a s' (upTo hv (b * a.P) a.P) sd := by
  intro b1 q1 hb1 hq1 hh
  unfold upTo at hh
  split at hh
  · cases hh
  · rename_i hn
    have hne : ¬ (b1 = b ∧ q1 < a.P) := fun ⟨e, _⟩ => by subst e; omega
    rw [hp, if_neg hne]
    exact h b1 q1 hb1 hq1 hh
theorem told_same {a : NdA} {s s' : Nd} {hv : Nat → Bool} {sd : Nat → Bytes} (h : Told a s hv sd) (hp : s'.pages = s.pages) : Told a s' hv sd := fun b q hb hq hh => by rw [hp]; exact h b q hb hq hh
end Ev
namespace Ev
open Go (IntKind)

section
variable {H : Heap} {b n : Nat}
theorem one_at1 {n i : Nat} (b : Nat) (hi : i < n) : Sl.at 1 ⟨some (b, 0), n, n⟩ (i : Int) = some (b, i) := by
  rw [at_of (by omega) (by show (i : Int) < (n : Int); omega), Int.toNat_natCast, Nat.mul_one, Nat.zero_add]
theorem bit_get {f : Nat → Bool} (h : H[b]? = some (.cells (arrC n fun k => [.bool (f k)]) .exact)) {i : Nat} (hi : i < n) : rdB H b i = some (f i) := by
  have := arrC_get (f := fun k => [C.bool (f k)]) (es := 1) (fun _ => rfl) (j := 0) (by decide) hi
  rw [Nat.mul_one, Nat.add_zero] at this
  exact rdB_of h this
theorem bit_set {f : Nat → Bool} (h : H[b]? = some (.cells (arrC n fun k => [.bool (f k)]) .exact)) {i : Nat} (hi : i < n) (x : Bool) : wr H b i [.bool x] = some (H.set b (.cells (arrC n fun k => [.bool (upd f i x k)]) .exact)) := by
  have hs := arrC_set (f := fun k => [C.bool (f k)]) (es := 1) (fun _ => rfl) (j := 0) (by decide) (.bool x) hi
  rw [Nat.mul_one, Nat.add_zero] at hs
  rw [wr1_of h (by decide) (by rw [arrC_length (f := fun k => [C.bool (f k)]) (es := 1) fun _ => rfl]; omega), hs]
  congr 4
  funext k
  by_cases hk : k = i
  · subst hk; simp [upd]
  · simp [upd, hk]
theorem str_get {f : Nat → Bytes} (h : H[b]? = some (.cells (arrC n fun k => [.str (f k)]) .exact)) {i : Nat} (hi : i < n) : rdS H b i = some (f i) := by
  have := arrC_get (f := fun k => [C.str (f k)]) (es := 1) (fun _ => rfl) (j := 0) (by decide) hi
  rw [Nat.mul_one, Nat.add_zero] at this
  exact rdS_of h this
theorem str_set {f : Nat → Bytes} (h : H[b]? = some (.cells (arrC n fun k => [.str (f k)]) .exact)) {i : Nat} (hi : i < n) (x : Bytes) : wr H b i [.str x] = some (H.set b (.cells (arrC n fun k => [.str (upd f i x k)]) .exact)) := by
  have hs := arrC_set (f := fun k => [C.str (f k)]) (es := 1) (fun _ => rfl) (j := 0) (by decide) (.str x) hi
  rw [Nat.mul_one, Nat.add_zero] at hs
  rw [wr1_of h (by decide) (by rw [arrC_length (f := fun k => [C.str (f k)]) (es := 1) fun _ => rfl]; omega), hs]
  congr 4
  funext k
  by_cases hk : k = i
  · subst hk; simp [upd]
  · simp [upd, hk]
end

/-- Where the law has its own things. -/
structure LawA where
  L : Nat
  g : Nat
  s : Nat
  h : Nat
def LawA.own (y : LawA) (k : Nat) : Prop := k < y.L ∨ k = y.g ∨ k = y.s ∨ k = y.h
structure LawA.Ok (y : LawA) (x2 : Sl) : Prop where
  x : ∀ b o, x2.p = some (b, o) → b < y.L
  d : y.L ≤ y.g ∧ y.L ≤ y.s ∧ y.L ≤ y.h ∧ y.g ≠ y.s ∧ y.g ≠ y.h ∧ y.s ≠ y.h
abbrev actT : List CT := [.int .i64, .int .i64, .str]
structure RS (y : LawA) (x2 : Sl) (rows : List (Tup actT)) (z : WrA) (a : NdA) (e : LfA) (R : Heap) (s : Nd) (v : Wr) (sb : Sl) (hv : Nat → Bool) (sd : Nat → Bytes) : Prop where
  w : WrAt y.own R z a e s v sb
  g : R[y.g]? = some (.cells [.int .i64 (a.B : Int), .int .i64 (a.P : Int), .int .i64 (a.S : Int)] .exact)
  s : R[y.s]? = some (.cells (arrC (a.B * a.P) fun k => [.str (sd k)]) .exact)
  h : R[y.h]? = some (.cells (arrC (a.B * a.P) fun k => [.bool (hv k)]) .exact)
  x : Row R 3 x2 (rowsOf actT rows)
section
variable {y : LawA} {x2 : Sl} {rows : List (Tup actT)} {z : WrA} {a : NdA} {e : LfA} {R : Heap} {s : Nd} {v : Wr} {sb : Sl} {hv : Nat → Bool} {sd : Nat → Bytes} {D : Int}
theorem RS.keep (r : RS y x2 rows z a e R s v sb hv sd) (ok : y.Ok x2) {R' : Heap} {s' : Nd} {v' : Wr} {sb' : Sl} (k : Keep (fun k => ¬ y.own k) R R') (w : WrAt y.own R' z a e s' v' sb') : RS y x2 rows z a e R' s' v' sb' hv sd :=
  ⟨w, k.get r.g (fun h => h (.inr (.inl rfl))), k.get r.s (fun h => h (.inr (.inr (.inl rfl)))), k.get r.h (fun h => h (.inr (.inr (.inr rfl)))), r.x.keep k fun b o hp hf => hf (.inl (ok.x b o hp))⟩
theorem RS.none (r : RS y x2 rows z a e R s v sb hv sd) (ok : y.Ok x2) {R' : Heap} (k : Keep (fun _ => False) R R') : RS y x2 rows z a e R' s v sb hv sd := r.keep ok (k.mono fun _ h => h.elim) (r.w.keep k fun _ _ => id)
theorem RS.setH (r : RS y x2 rows z a e R s v sb hv sd) (ok : y.Ok x2) {i : Nat} (hi : i < a.B * a.P) (x : Bool) : ∃ R', wr R y.h i [.bool x] = some R' ∧ RS y x2 rows z a e R' s v sb (upd hv i x) sd := by
  have hd := ok.d
  have kp : Keep (fun k => k = y.h) R (R.set y.h (.cells (arrC (a.B * a.P) fun k => [.bool (upd hv i x k)]) .exact)) := Keep.set _ _ _ rfl
  refine ⟨_, bit_set r.h hi x, r.w.keep kp fun k hk hf => r.w.nN k hk (by rw [hf]; exact .inr (.inr (.inr rfl))), kp.get r.g (by omega), kp.get r.s (by omega), set_get (get_lt r.h), r.x.keep kp fun b o hp hf => by have := ok.x b o hp; omega⟩
theorem RS.setS (r : RS y x2 rows z a e R s v sb hv sd) (ok : y.Ok x2) {i : Nat} (hi : i < a.B * a.P) (x : Bytes) : ∃ R', wr R y.s i [.str x] = some R' ∧ RS y x2 rows z a e R' s v sb hv (upd sd i x) := by
  have hd := ok.d
  have kp : Keep (fun k => k = y.s) R (R.set y.s (.cells (arrC (a.B * a.P) fun k => [.str (upd sd i x k)]) .exact)) := Keep.set _ _ _ rfl
  refine ⟨_, str_set r.s hi x, r.w.keep kp fun k hk hf => r.w.nN k hk (by rw [hf]; exact .inr (.inr (.inl rfl))), kp.get r.g (by omega), set_get (get_lt r.s), kp.get r.h (by omega), r.x.keep kp fun b o hp hf => by have := ok.x b o hp; omega⟩

/-- All that was told is read. -/
theorem reads_told (r : RS y x2 rows z a e R s v sb hv sd) (ok : y.Ok x2) (i : WInv a s v) (w : Wf a s D) (T : Told a s hv sd) (hB : a.B * a.P ≤ 1000) (Hx Hy Hz : Heap) (f : Bool) :
    ∃ R', loopW (law13_WriteReads.s2 ((some (a.c, 0), some (z.w, 0), f, ()), Hx) (⟨some (y.s, 0), a.B * a.P, a.B * a.P⟩, Hy) (⟨some (y.h, 0), a.B * a.P, a.B * a.P⟩, Hz)) (0, ()) R = some (.inl (), R') ∧ RS y x2 rows z a e R' s v sb hv sd := by
  have hsz := w.sz
  obtain ⟨x, R', l1, rfl, l2⟩ := loop_rise (step := law13_WriteReads.s2 ((some (a.c, 0), some (z.w, 0), f, ()), Hx) (⟨some (y.s, 0), a.B * a.P, a.B * a.P⟩, Hy) (⟨some (y.h, 0), a.B * a.P, a.B * a.P⟩, Hz)) (a.B * a.P)
    (fun k t G => t = ((k : Int), ()) ∧ RS y x2 rows z a e G s v sb hv sd) (fun x G => x = .inl () ∧ RS y x2 rows z a e G s v sb hv sd)
    (by
      rintro k _ G hk ⟨rfl, q⟩
      have hh := bit_get q.h hk
      have hsu := wrap_succ (show k < 9223372036854775807 by omega)
      have hlt : decide ((k : Int) < ((a.B * a.P : Nat) : Int)) = true := decide_eq_true (by omega)
      cases hb : hv k with
      | false =>
        rw [hb] at hh
        refine .inl ⟨(((k + 1 : Nat) : Int), ()), G, ?_, rfl, q⟩
        unfold law13_WriteReads.s2
        simp only [hlt, cond_t, one_at1 _ hk, bind_some, hh, Bool.not_false, hsu]
      | true =>
        rw [hb] at hh
        obtain ⟨G1, r1, r2, r3⟩ := write_Read q.w w (k := k) (by omega)
        have hP : 0 < a.P := by omega
        have hb1 : k / a.P < a.B := (Nat.div_lt_iff_lt_mul hP).2 hk
        have hq1 : k % a.P < a.P := Nat.mod_lt _ hP
        have hkk : k / a.P * a.P + k % a.P = k := by have := Nat.div_add_mod k a.P; rw [Nat.mul_comm] at this; exact this
        obtain ⟨t1, t, t2, t3, t4, t5⟩ := T (k / a.P) (k % a.P) hb1 hq1 (by rw [hkk]; exact hb)
        have hrd := read_told i.off hb1 hq1 t5 t2 ⟨t3, t4⟩ (by omega) t1
        rw [hkk] at hrd
        rw [hrd] at r1
        have w1 : wr (G1 ++ [Blk.cells [.int .i64 0, .int .u64 0, .int .i64 0, .int .i64 0, .int .i64 0] .exact]) G1.length 0 [.int .i64 t.1, .int .u64 t.2.1, .int .i64 t.2.2.1, .int .i64 t.2.2.2.1, .int .i64 t.2.2.2.2.1] = some ((G1 ++ [tagB tag0]).set G1.length (tagB t)) := wr_tag (G1 ++ [tagB tag0]) G1.length tag0 app_last t
        have hs : (G1 ++ [tagB tag0]).set G1.length (tagB t) = G1 ++ [tagB t] := set_last
        rw [hs] at w1
        have q2 := (q.none ok r3).none ok (Keep.push (fun _ => False) G1 (tagB t))
        have hss := str_get q2.s hk
        refine .inl ⟨(((k + 1 : Nat) : Int), ()), _, ?_, rfl, q2⟩
        unfold law13_WriteReads.s2
        simp only [hlt, cond_t, one_at1 _ hk, bind_some, hh, Bool.not_true, cond_f, r1, w1, decide_true, hss, hsu])
    (by
      rintro _ G ⟨rfl, q⟩
      refine ⟨.inl (), G, ?_, rfl, q⟩
      unfold law13_WriteReads.s2
      simp only [decide_eq_false (show ¬ ((a.B * a.P : Nat) : Int) < ((a.B * a.P : Nat) : Int) by omega), cond_f])
    (y := (((0 : Nat) : Int), ())) ⟨rfl, r⟩
  exact ⟨R', l1, l2⟩
theorem upTo_zero (hv : Nat → Bool) (lo : Nat) : upTo hv lo 0 = hv := by
  funext k
  unfold upTo
  rw [if_neg (by omega)]
theorem upTo_succ (hv : Nat → Bool) (lo n : Nat) : upd (upTo hv lo n) (lo + n) false = upTo hv lo (n + 1) := by
  funext k
  unfold upd upTo
  by_cases h : k = lo + n
  · rw [if_pos h, if_pos (by omega)]
  · rw [if_neg h]
    by_cases h2 : lo ≤ k ∧ k < lo + n
    · rw [if_pos h2, if_pos (by omega)]
    · rw [if_neg h2, if_neg (by omega)]
/-- The pages of an erased block are told no more. -/
theorem clears (r : RS y x2 rows z a e R s v sb hv sd) (ok : y.Ok x2) (hB : a.B ≤ 1000 ∧ a.P ≤ 1000) {b : Nat} (hb : b < a.B) (hl : v.lf.l b = 0) (Hx Hz : Heap) (f : Bool) (r5 : ((Int × Int × Int × Unit) × Unit) × Heap) (h5 : r5.2.length = y.g) {v22 v23 v24 v25 : Int}
    (ht : Int.tmod (IntKind.wrap .i64 ((Int.tmod v22 v23) + v24)) v25 = (b : Int)) :
    ∃ R', loopW (law13_WriteReads.s1 ((some (a.c, 0), some (z.w, 0), f, ()), Hx) r5 (⟨some (y.h, 0), a.B * a.P, a.B * a.P⟩, Hz) v22 v23 v24 v25) (0, ()) R = some ((), R') ∧ RS y x2 rows z a e R' s v sb (upTo hv (b * a.P) a.P) sd := by
  have eB := r.w.eB.1
  obtain ⟨x, R', l1, rfl, l2⟩ := loop_rise (step := law13_WriteReads.s1 ((some (a.c, 0), some (z.w, 0), f, ()), Hx) r5 (⟨some (y.h, 0), a.B * a.P, a.B * a.P⟩, Hz) v22 v23 v24 v25) a.P
    (fun k t G => t = ((k : Int), ()) ∧ RS y x2 rows z a e G s v sb (upTo hv (b * a.P) k) sd) (fun x G => x = () ∧ RS y x2 rows z a e G s v sb (upTo hv (b * a.P) a.P) sd)
    (by
      rintro k _ G hk ⟨rfl, q⟩
      have rP : rdI .i64 G r5.2.length 1 = some (a.P : Int) := by rw [h5]; exact rdI_of q.g rfl
      have hLi := write_Life q.w
      have hIs := life_Is q.w.lf (i := b) (by omega)
      rw [hl] at hIs
      have hbP : b * a.P ≤ 1000000 := Nat.mul_le_mul (show b ≤ 1000 by omega) hB.2
      have hin : b * a.P + k < a.B * a.P := by
        have := Nat.mul_le_mul_right a.P (show b + 1 ≤ a.B by omega)
        rw [Nat.add_mul, Nat.one_mul] at this
        omega
      have ew : IntKind.wrap .i64 (IntKind.wrap .i64 ((b : Int) * (a.P : Int)) + (k : Int)) = ((b * a.P + k : Nat) : Int) := by
        have ew1 : IntKind.wrap .i64 ((b : Int) * (a.P : Int)) = ((b * a.P : Nat) : Int) := by rw [← Int.natCast_mul]; generalize b * a.P = bp at hbP; exact wrap_i64 (by omega) (by omega)
        rw [ew1]
        generalize b * a.P = bp at hbP
        rw [wrap_i64 (by omega) (by omega)]; omega
      obtain ⟨G', g1, g2⟩ := q.setH ok hin false
      rw [upTo_succ] at g2
      refine .inl ⟨(((k + 1 : Nat) : Int), ()), G', ?_, rfl, g2⟩
      unfold law13_WriteReads.s1
      simp only [rP, bind_some, decide_eq_true (show (k : Int) < (a.P : Int) by omega), cond_t, hLi, ht, hIs, decide_true, ew, one_at1 _ hin, g1, wrap_succ (show k < 9223372036854775807 by omega)])
    (by
      rintro _ G ⟨rfl, q⟩
      have rP : rdI .i64 G r5.2.length 1 = some (a.P : Int) := by rw [h5]; exact rdI_of q.g rfl
      refine ⟨(), G, ?_, rfl, q⟩
      unfold law13_WriteReads.s1
      simp only [rP, bind_some, decide_eq_false (show ¬ (a.P : Int) < (a.P : Int) by omega), cond_f])
    (y := (((0 : Nat) : Int), ())) ⟨rfl, by rw [upTo_zero]; exact r⟩
  exact ⟨R', l1, l2⟩
/-- A block that is not free keeps them. -/
theorem clears_not (r : RS y x2 rows z a e R s v sb hv sd) (hP : 0 < a.P) {b : Nat} (hb : b < a.B) (hl : v.lf.l b = 3) (Hx Hz : Heap) (f : Bool) (r5 : ((Int × Int × Int × Unit) × Unit) × Heap) (h5 : r5.2.length = y.g) {v22 v23 v24 v25 : Int}
    (ht : Int.tmod (IntKind.wrap .i64 ((Int.tmod v22 v23) + v24)) v25 = (b : Int)) :
    loopW (law13_WriteReads.s1 ((some (a.c, 0), some (z.w, 0), f, ()), Hx) r5 (⟨some (y.h, 0), a.B * a.P, a.B * a.P⟩, Hz) v22 v23 v24 v25) (0, ()) R = some ((), R) := by
  have eB := r.w.eB.1
  have rP : rdI .i64 R r5.2.length 1 = some (a.P : Int) := by rw [h5]; exact rdI_of r.g rfl
  have hLi := write_Life r.w
  have hIs := life_Is r.w.lf (i := b) (by omega)
  rw [hl] at hIs
  have hs : law13_WriteReads.s1 ((some (a.c, 0), some (z.w, 0), f, ()), Hx) r5 (⟨some (y.h, 0), a.B * a.P, a.B * a.P⟩, Hz) v22 v23 v24 v25 (0, ()) R = some (.inr (), R) := by
    unfold law13_WriteReads.s1
    have z3 : decide ((3 : Int) = 0) = false := rfl
    simp only [rP, bind_some, decide_eq_true (show (0 : Int) < (a.P : Int) by omega), cond_t, hLi, ht, hIs, z3, cond_f]
  exact loopW_eq (n := 1) (by rw [iter, hs]; rfl)
end
end Ev
namespace Ev
open Go (IntKind)

theorem few_eq (x : Bytes) : ∃ w : Bytes, law13_few x = some (w, ()) ∧ w.length ≤ 70 := by
  unfold law13_few law13_few.on
  by_cases h : 70 < x.length
  · refine ⟨(x.take 70).drop 0, ?_, by simp; omega⟩
    have hs : subS x 0 70 = some ((x.take 70).drop 0) := sub_of (lo := 0) (hi := 70) (by decide) (by omega)
    simp only [decide_eq_true (show (70 : Int) < (x.length : Int) by omega), cond_t, hs, bind_some]
  · refine ⟨x, ?_, by omega⟩
    simp only [decide_eq_false (show ¬ (70 : Int) < (x.length : Int) by omega), cond_f]
theorem act_cell {H : Heap} {s : Sl} {rows : List (Tup actT)} (h : Row H 3 s (rowsOf actT rows)) {i : Nat} (hi : i < rows.length) :
    ∃ (b o : Nat) (k m : Int) (x : Bytes), Sl.at 3 s (i : Int) = some (b, o) ∧ rdI .i64 H b o = some k ∧ rdI .i64 H b (o + 1) = some m ∧ rdS H b (o + 2) = some x := by
  have h' : Row H actT.length s (rowsOf actT rows) := h
  obtain ⟨b, o, _, h1, _, cs, bk, h2, h3, h4⟩ := h'.at (cts := actT) hi (by decide)
  have hg : ∀ j, j < 3 → cs[o + j]? = (Tup.mk actT rows[i])[j]? := by
    intro j hj
    rw [← h4, List.getElem?_take, List.getElem?_drop]
    exact (if_pos hj).symm
  exact ⟨b, o, rows[i].1, rows[i].2.1, rows[i].2.2.1, h1, rdI_of h2 (by have := hg 0 (by decide); rw [Nat.add_zero] at this; rw [this]; rfl), rdI_of h2 (by rw [hg 1 (by decide)]; rfl), rdS_of h2 (by rw [hg 2 (by decide)]; rfl)⟩

theorem WriteReads_true (x0 : Geo) (x1 x2 : Sl) {A H : Heap} (_ : ∀ c ∈ Tup.mk [.int .i64, .int .i64, .int .i64] x0, wfC c) (hx1 : Came [.int .i64] [] x1 A) (hx2 : Came [.int .i64, .int .i64, .str] A x2 H) : ∃ H', law13_WriteReads x0 x1 x2 H = some ((true, ()), H') := by
  unfold law13_WriteReads
  let gB : Blk := .cells [.int .i64 x0.1, .int .i64 x0.2.1, .int .i64 x0.2.2.1] .exact
  have q1 : H ++ [Blk.cells [.int .i64 x0.1, .int .i64 x0.2.1, .int .i64 x0.2.2.1] .exact] = H ++ [gB] := rfl
  have r1 := rd_geo (H := H ++ [gB]) (k := H.length) (g := x0) (bk := .exact) app_last
  have eg : (x0.1, x0.2.1, x0.2.2.1, ()) = x0 := rfl
  obtain ⟨rows1, lr1, ll1, _, _⟩ := came_rows hx1
  have no : ∀ {s : Sl} (b o : Nat), s.p = some (b, o) → ¬ False := fun _ _ _ => id
  obtain ⟨f1, f2⟩ := row_front lr1 ll1 (came_fits hx1) (n := min 8 x1.len) (by omega)
  have s2 : Sl.sub 1 x1 0 (if 8 < (x1.len : Int) then 8 else (x1.len : Int)) (x1.cap : Int) = some ⟨x1.p, min 8 x1.len, x1.cap⟩ := by
    have em : (if 8 < (x1.len : Int) then (8 : Int) else (x1.len : Int)) = ((min 8 x1.len : Nat) : Int) := by split <;> omega
    rw [em]; exact f1
  have f2' : Row (H ++ [gB]) 1 ⟨x1.p, min 8 x1.len, x1.cap⟩ (intC ((rows1.take (min 8 x1.len)).map fun x => x.1)) := by
    rw [← rows_int]
    exact f2.keep ((came_stay hx2).trans (Keep.push _ _ _)) no
  obtain ⟨rows, lr, ll, _, lb⟩ := came_rows hx2
  have lr : Row H 3 x2 (rowsOf actT rows) := lr
  obtain ⟨H1, a, e, z, b1, b2, b3, hB0, hB1, hP0, hP1, hS0, hS1⟩ := begun13 (H := H ++ [gB]) (f1 := ⟨none, 0, 0⟩) (f2 := x1) (f3 := ⟨none, 0, 0⟩) (t1 := ⟨none, 0, 0⟩) (cuts := []) (fails := (rows1.take (min 8 x1.len)).map fun x => x.1) x0 rfl s2 (Row.ni _ 3 0) f2' (by decide) (Nat.le_trans (Nat.le_of_eq (List.length_map _)) (by rw [List.length_take]; omega))
  have hBP : a.B * a.P ≤ 165 := Nat.mul_le_mul (show a.B ≤ 15 by omega) (show a.P ≤ 11 by omega)
  have hBP0 : 0 < a.B * a.P := Nat.mul_pos (by omega) (by omega)
  obtain ⟨eB, eP⟩ := b2.eB
  obtain ⟨G, g1, g2, g3⟩ := nand_geometry b2.nd
  have hg := b2.keep g3 fun _ _ => id
  let zB : Blk := .cells [.int .i64 (a.B : Int), .int .i64 (a.P : Int), .int .i64 (a.S : Int)] .exact
  have w1 : wr (G ++ [Blk.cells [.int .i64 0, .int .i64 0, .int .i64 0] .exact]) G.length 0 [.int .i64 (a.B : Int), .int .i64 (a.P : Int), .int .i64 (a.S : Int)] = some (G ++ [zB]) := by
    rw [wr_last (by decide) (by simp)]; rfl
  have rB0 : rdI .i64 (G ++ [zB]) G.length 0 = some (a.B : Int) := rdI_of app_last rfl
  have rP0 : rdI .i64 (G ++ [zB]) G.length 1 = some (a.P : Int) := rdI_of app_last rfl
  have mz : IntKind.wrap .i64 ((a.B : Int) * (a.P : Int)) = ((a.B * a.P : Nat) : Int) := by
    rw [← Int.natCast_mul]; generalize a.B * a.P = m at hBP; exact wrap_i64 (by omega) (by omega)
  let G1 : Heap := (G ++ [zB]) ++ [.cells (arrC (a.B * a.P) fun _ => [.str []]) .exact]
  have m1 : mkS (G ++ [zB]) 16 [.str []] ((a.B * a.P : Nat) : Int) ((a.B * a.P : Nat) : Int) = some (⟨some ((G ++ [zB]).length, 0), a.B * a.P, a.B * a.P⟩, G1) := mkS_of (by omega) (by omega)
  have eg1 : G1[G.length]? = some zB := by rw [app_lt (by simp)]; exact app_last
  have rB1 : rdI .i64 G1 G.length 0 = some (a.B : Int) := rdI_of eg1 rfl
  have rP1 : rdI .i64 G1 G.length 1 = some (a.P : Int) := rdI_of eg1 rfl
  let G2 : Heap := G1 ++ [.cells (arrC (a.B * a.P) fun _ => [.bool false]) .exact]
  have m2 : mkS G1 1 [.bool false] ((a.B * a.P : Nat) : Int) ((a.B * a.P : Nat) : Int) = some (⟨some (G1.length, 0), a.B * a.P, a.B * a.P⟩, G2) := mkS_of (by omega) (by omega)
  have hl1 : G1.length = G.length + 2 := by simp [G1]
  have hlz : (G ++ [zB]).length = G.length + 1 := by simp
  have hlG : H.length + 1 ≤ G.length := by
    have k1 := b3.len
    have k2 := g3.len
    have k3 : (H ++ [gB]).length = H.length + 1 := by simp
    omega
  let y : LawA := ⟨H.length, G.length, (G ++ [zB]).length, G1.length⟩
  have ok : y.Ok x2 := ⟨fun b o hp => lr.lt hp, by show H.length ≤ G.length ∧ H.length ≤ (G ++ [zB]).length ∧ H.length ≤ G1.length ∧ G.length ≠ (G ++ [zB]).length ∧ G.length ≠ G1.length ∧ (G ++ [zB]).length ≠ G1.length; omega⟩
  have hgp := ((hg.push zB).push (.cells (arrC (a.B * a.P) fun _ => [.str []]) .exact)).push (.cells (arrC (a.B * a.P) fun _ => [.bool false]) .exact)
  have hlk : (H ++ [gB]).length = H.length + 1 := by simp
  have r0 : RS y x2 rows z a e G2 (Nd.new [] ((rows1.take (min 8 x1.len)).map fun x => x.1) []) Wr.new ⟨none, 0, 0⟩ (fun _ => false) (fun _ => []) := by
    refine ⟨hgp.more (fun k hk hm => ?_) (fun k hm => ?_), ?_, ?_, app_last, ?_⟩
    · have h1 := hg.lt hk
      have h2 := b2.nN k hk
      rcases hm with hm | hm | hm | hm
      · have : k < H.length := hm
        exact h2 (by show k < (H ++ [gB]).length; omega)
      · have : k = G.length := hm
        omega
      · have : k = (G ++ [zB]).length := hm
        omega
      · have : k = G1.length := hm
        omega
    · have hl2 : G2.length = G.length + 3 := by simp [G2, G1]
      rcases hm with hm | hm | hm | hm
      · have : k < H.length := hm
        show k < G2.length
        omega
      · have : k = G.length := hm
        show k < G2.length
        omega
      · have : k = (G ++ [zB]).length := hm
        show k < G2.length
        omega
      · have : k = G1.length := hm
        show k < G2.length
        omega
    · show G2[G.length]? = _
      rw [app_lt (by omega)]; exact eg1
    · show G2[(G ++ [zB]).length]? = _
      rw [app_lt (by omega)]; exact app_last
    · have kk : Keep (fun _ => False) H G2 := ((((Keep.push _ _ _).trans b3).trans g3).trans (Keep.push _ _ _)).trans ((Keep.push _ _ _).trans (Keep.push _ _ _))
      exact lr.keep kk no
  have i0 := WInv.new a ((rows1.take (min 8 x1.len)).map fun x => x.1) (show 0 < a.P by omega)
  have w0 := Wf.new' (a := a) (fails := (rows1.take (min 8 x1.len)).map fun x => x.1) (fun x (hx : x ∈ ([] : List Cut)) => by cases hx) (by omega)
  have T0 : Told a (Nd.new [] ((rows1.take (min 8 x1.len)).map fun x => x.1) []) (fun _ => false) (fun _ => []) := fun b q hb hq hh => by cases hh
  have hBd : decide ((a.B : Int) = 0) = false := decide_eq_false (by omega)
  obtain ⟨w, R, l1, rfl⟩ := loop_rise (step := law13_WriteReads.s3 x2 ((some (a.c, 0), some (z.w, 0), true, ()), H1) ((((a.B : Int), (a.P : Int), (a.S : Int), ()), ()), G) (⟨some ((G ++ [zB]).length, 0), a.B * a.P, a.B * a.P⟩, G1) (⟨some (G1.length, 0), a.B * a.P, a.B * a.P⟩, G2)) (min rows.length 80)
    (fun k t R => t = ((k : Int), ()) ∧ ∃ s v sb hv sd, RS y x2 rows z a e R s v sb hv sd ∧ WInv a s v ∧ Wf a s (50 * k) ∧ (∀ j, 0 ≤ v.worn j ∧ v.worn j ≤ k) ∧ v.bad.length ≤ 20 * k ∧ Told a s hv sd)
    (fun x _ => x = .inl ())
    (by
      rintro k _ R hk ⟨rfl, s, v, sb, hv, sd, q, i, w, hw, hbl, T⟩
      have hkl : k < rows.length := by omega
      obtain ⟨cb, co, kd, bl, tx, c1, c2, c3, c4⟩ := act_cell q.x hkl
      obtain ⟨txt, c5, c6⟩ := few_eq tx
      obtain ⟨b, hb, htm⟩ := tmod_pick bl a.B (by omega) (by omega)
      have rB : rdI .i64 R G.length 0 = some (a.B : Int) := rdI_of q.g rfl
      have hlen : decide ((k : Int) < (x2.len : Int)) = true := decide_eq_true (by omega)
      have h80 : decide ((k : Int) < 80) = true := decide_eq_true (by omega)
      have hsu := wrap_succ (show k < 9223372036854775807 by omega)
      have hLi := write_Life q.w
      by_cases k4 : kd = 4
      · have d4 : decide (kd = 4) = true := decide_eq_true k4
        have hIs := life_Is q.w.lf (i := b) (by omega)
        by_cases hl3 : v.lf.l b = 3
        · refine .inl ⟨(((k + 1 : Nat) : Int), ()), R, ?_, rfl, s, v, sb, hv, sd, q, i, w.le (by omega) (by omega), fun j => by have := hw j; omega, by omega, T⟩
          unfold law13_WriteReads.s3
          rw [hl3] at hIs
          simp only [hlen, h80, cond_t, c1, bind_some, c2, c3, c4, c5, rB, hBd, cond_f, d4, hLi, htm, hIs, decide_true, sum0, sum1, hsu]
        · have hl3d : decide (v.lf.l b = 3) = false := decide_eq_false hl3
          obtain ⟨R1, s', v', sb', e1, e2, e3, e4, e5, e6, e7, e8⟩ := erase_any q.w i w (by omega) (by omega) (fun j _ => by have := hw j; omega) hb hl3
          have q' := q.keep ok e3 e2
          have fin : ∀ (hv' : Nat → Bool) (R2 : Heap), loopW (law13_WriteReads.s1 ((some (a.c, 0), some (z.w, 0), true, ()), H1) ((((a.B : Int), (a.P : Int), (a.S : Int), ()), ()), G) (⟨some (G1.length, 0), a.B * a.P, a.B * a.P⟩, G2) bl (a.B : Int) (a.B : Int) (a.B : Int)) (0, ()) R1 = some ((), R2) → RS y x2 rows z a e R2 s' v' sb' hv' sd → Told a s' hv' sd → 
              (∃ y' G', law13_WriteReads.s3 x2 ((some (a.c, 0), some (z.w, 0), true, ()), H1) ((((a.B : Int), (a.P : Int), (a.S : Int), ()), ()), G) (⟨some ((G ++ [zB]).length, 0), a.B * a.P, a.B * a.P⟩, G1) (⟨some (G1.length, 0), a.B * a.P, a.B * a.P⟩, G2) ((k : Int), ()) R = some (.inl y', G') ∧ y' = (((k + 1 : Nat) : Int), ()) ∧ ∃ s v sb hv sd, RS y x2 rows z a e G' s v sb hv sd ∧ WInv a s v ∧ Wf a s (50 * ((k + 1 : Nat) : Int)) ∧ (∀ j, 0 ≤ v.worn j ∧ v.worn j ≤ ((k + 1 : Nat) : Int)) ∧ v.bad.length ≤ 20 * (k + 1) ∧ Told a s hv sd) := by
            intro hv' R2 p1 p2 p3
            obtain ⟨R3, t1, t2⟩ := reads_told p2 ok e4 e5 p3 (by omega) H1 G1 G2 true
            have t1' : loopW (law13_WriteReads.s2 ((some (a.c, 0), some (z.w, 0), true, ()), H1) (⟨some ((G ++ [zB]).length, 0), a.B * a.P, a.B * a.P⟩, G1) (⟨some (G1.length, 0), a.B * a.P, a.B * a.P⟩, G2)) (0, ()) R2 = some (.inl (), R3) := t1
            refine ⟨(((k + 1 : Nat) : Int), ()), R3, ?_, rfl, s', v', sb', hv', sd, t2, e4, e5.le (by omega) (by omega), fun j => by have h1 := hw j; have h2 := e6 j; omega, by omega, p3⟩
            unfold law13_WriteReads.s3
            simp only [hlen, h80, cond_t, c1, bind_some, c2, c3, c4, c5, rB, hBd, cond_f, d4, hLi, htm, hIs, hl3d, e1, decide_true, Bool.not_true, p1, sum0, t1', hsu]
          rcases e8 with ⟨e8, e9⟩ | ⟨e8, e9⟩
          · exact .inl (fin hv R1 (clears_not q' (by omega) hb e8 H1 G2 true _ rfl htm) q' (told_same T e9))
          · obtain ⟨R2, u1, u2⟩ := clears q' ok (by omega) hb e8 H1 G2 true ((((a.B : Int), (a.P : Int), (a.S : Int), ()), ()), G) rfl htm
            exact .inl (fin _ R2 u1 u2 (T.erased e9))
      · have d4 : decide (kd = 4) = false := decide_eq_false k4
        have fin : ∀ (s' : Nd) (v' : Wr) (sb' : Sl) (hv' : Nat → Bool) (sd' : Nat → Bytes) (R2 : Heap), RS y x2 rows z a e R2 s' v' sb' hv' sd' → WInv a s' v' → Wf a s' (50 * ((k + 1 : Nat) : Int)) → Told a s' hv' sd' → ∃ R3, loopW (law13_WriteReads.s2 ((some (a.c, 0), some (z.w, 0), true, ()), H1) (⟨some ((G ++ [zB]).length, 0), a.B * a.P, a.B * a.P⟩, G1) (⟨some (G1.length, 0), a.B * a.P, a.B * a.P⟩, G2)) (0, ()) R2 = some (.inl (), R3) ∧ RS y x2 rows z a e R3 s' v' sb' hv' sd' := by
          intro s' v' sb' hv' sd' R2 p2 e4 e5 p3
          exact reads_told p2 ok e4 e5 p3 (by omega) H1 G1 G2 true
        by_cases k5 : kd = 5
        · have d5 : decide (kd = 5) = true := decide_eq_true k5
          have hAt := life_At q.w.lf
          rcases i.op with hop | ⟨c, hc, ho, hl, hn, _⟩
          · have hat0 : v.lf.at = (0, 0, false, ()) := if_pos hop
            obtain ⟨R3, t1, t2⟩ := fin s v sb hv sd R q i (w.le (by omega) (by omega)) T
            refine .inl ⟨(((k + 1 : Nat) : Int), ()), R3, ?_, rfl, s, v, sb, hv, sd, t2, i, w.le (by omega) (by omega), fun j => by have := hw j; omega, by omega, T⟩
            unfold law13_WriteReads.s3
            simp only [hlen, h80, cond_t, c1, bind_some, c2, c3, c4, c5, rB, hBd, cond_f, d4, d5, hLi, hAt, hat0, sum0, t1, hsu]
          · have hat0 : v.lf.at = (v.lf.op, (v.lf.nx : Int), true, ()) := if_neg (by omega)
            rw [ho] at hat0
            obtain ⟨R2, f1, f2, f3⟩ := life_Full q.w.lf (i := c) (by omega)
            have q' := q.keep ok (q.w.nl f3) (q.w.life f2 f3)
            have i' := i.full hc ho hl
            obtain ⟨R3, t1, t2⟩ := fin s _ sb hv sd R2 q' i' (w.le (by omega) (by omega)) T
            refine .inl ⟨(((k + 1 : Nat) : Int), ()), R3, ?_, rfl, s, _, sb, hv, sd, t2, i', w.le (by omega) (by omega), fun j => by have := hw j; show 0 ≤ v.worn j ∧ v.worn j ≤ _; omega, by show v.bad.length ≤ _; omega, T⟩
            unfold law13_WriteReads.s3
            simp only [hlen, h80, cond_t, c1, bind_some, c2, c3, c4, c5, rB, hBd, cond_f, d4, d5, hLi, hAt, hat0, f1, sum0, t1, hsu]
        · have d5 : decide (kd = 5) = false := decide_eq_false k5
          have et : ((tagN k).1, (tagN k).2.1, (tagN k).2.2.1, (tagN k).2.2.2.1, (tagN k).2.2.2.2.1, ()) = tagN k := rfl
          have tg := tag_eq (show k < 4294967296 by omega)
          by_cases hlong : a.S < txt.length
          · obtain ⟨R1, n1, n2, n3⟩ := write_Append_no q.w (t := tagN k) (x := txt) (.inr hlong)
            have q' := q.none ok n3
            have rS : rdI .i64 R1 G.length 2 = some (a.S : Int) := rdI_of q'.g rfl
            refine .inl ⟨(((k + 1 : Nat) : Int), ()), R1, ?_, rfl, s, v, sb, hv, sd, q', i, w.le (by omega) (by omega), fun j => by have := hw j; omega, by omega, T⟩
            unfold law13_WriteReads.s3
            simp only [hlen, h80, cond_t, c1, bind_some, c2, c3, c4, c5, rB, hBd, cond_f, d4, d5, tg, et, n1, rS, decide_eq_true (show (a.S : Int) < (txt.length : Int) by omega), decide_true, Bool.not_true, sum0, sum1, hsu]
          · have dlong : decide ((a.S : Int) < (txt.length : Int)) = false := decide_eq_false (by omega)
            obtain ⟨R1, p, er, s', v', sb', n1, n2, n3, n4, n5, n6, n7, n8, n9⟩ := app_calm (t := tagN k) (x := txt) q.w i w (by omega) (by omega) (by omega) (fun j _ => by have := hw j; omega) (fun w h1 h2 => tag_ok (by omega)) (tagN_seq (by omega) (w := 0)) (by omega)
            have q' := q.keep ok n3 n2
            have rS : rdI .i64 R1 G.length 2 = some (a.S : Int) := rdI_of q'.g rfl
            have hw' : ∀ j, 0 ≤ v'.worn j ∧ v'.worn j ≤ ((k + 1 : Nat) : Int) := fun j => by have := hw j; rw [n7]; omega
            rcases told_app n4 T (fun j _ => by have := hw j; omega) (fun w h1 h2 => tag_ok (by omega)) (tagN_seq (by omega) (w := 0)) (by omega) with ⟨rfl, T'⟩ | ⟨rfl, b', q2, hb', hq2, rfl, hno, T'⟩
            · refine .inl ⟨(((k + 1 : Nat) : Int), ()), R1, ?_, rfl, s', v', sb', hv, sd, q', n5, n6.le (by omega) (by omega), hw', by omega, T'⟩
              unfold law13_WriteReads.s3
              simp only [hlen, h80, cond_t, c1, bind_some, c2, c3, c4, c5, rB, hBd, cond_f, d4, d5, tg, et, n1, rS, dlong, decide_true, sum0, sum1, hsu]
            · have hin : b' * a.P + q2 < a.B * a.P := by
                have := Nat.mul_le_mul_right a.P (show b' + 1 ≤ a.B by omega)
                rw [Nat.add_mul, Nat.one_mul] at this
                omega
              have hg1 := bit_get q'.h hin
              rw [hno] at hg1
              obtain ⟨R2, u1, u2⟩ := q'.setS ok hin txt
              obtain ⟨R3, u3, u4⟩ := u2.setH ok hin true
              obtain ⟨R4, t1, t2⟩ := fin s' v' sb' _ _ R3 u4 n5 (n6.le (by omega) (by omega)) T'
              have z1 : decide ((0 : Int) = 130) = false := rfl
              refine .inl ⟨(((k + 1 : Nat) : Int), ()), R4, ?_, rfl, s', v', sb', _, _, t2, n5, n6.le (by omega) (by omega), hw', by omega, T'⟩
              unfold law13_WriteReads.s3
              have hg1' : rdB R1 G1.length (b' * a.P + q2) = some false := hg1
              have u1' : wr R1 (G ++ [zB]).length (b' * a.P + q2) [.str txt] = some R2 := u1
              have u3' : wr R2 G1.length (b' * a.P + q2) [.bool true] = some R3 := u3
              simp only [hlen, h80, cond_t, c1, bind_some, c2, c3, c4, c5, rB, hBd, cond_f, d4, d5, tg, et, n1, rS, dlong, z1, decide_true, Bool.not_true, decide_eq_false (show ¬ ((b' * a.P + q2 : Nat) : Int) < 0 by omega), decide_eq_false (show ¬ ((a.B * a.P : Nat) : Int) ≤ ((b' * a.P + q2 : Nat) : Int) by omega), one_at1 _ hin, hg1', u1', u3', sum0, t1, hsu])
    (by
      rintro _ R ⟨rfl, s, v, sb, hv, sd, q, i, w, hw, hbl, T⟩
      refine ⟨.inl (), R, ?_, rfl⟩
      unfold law13_WriteReads.s3
      by_cases hle : rows.length ≤ 80
      · have d1 : decide (((min rows.length 80 : Nat) : Int) < (x2.len : Int)) = false := decide_eq_false (by omega)
        simp only [d1, cond_f]
      · have d1 : decide (((min rows.length 80 : Nat) : Int) < (x2.len : Int)) = true := decide_eq_true (by omega)
        have d2 : decide (((min rows.length 80 : Nat) : Int) < 80) = false := decide_eq_false (by omega)
        simp only [d1, cond_t, d2, cond_f])
    (y := (((0 : Nat) : Int), ())) ⟨rfl, _, _, _, _, _, r0, i0, w0.le (by omega) (by omega), fun j => ⟨Int.le_refl 0, Int.le_refl 0⟩, Nat.zero_le _, T0⟩
  have l1' : loopW (law13_WriteReads.s3 x2 ((some (a.c, 0), some (z.w, 0), true, ()), H1) ((((a.B : Int), (a.P : Int), (a.S : Int), ()), ()), G) (⟨some ((G ++ [zB]).length, 0), a.B * a.P, a.B * a.P⟩, G1) (⟨some (G1.length, 0), a.B * a.P, a.B * a.P⟩, G2)) (0, ()) G2 = some (.inl (), R) := l1
  refine ⟨R, ?_⟩
  simp only [q1, r1, bind_some, eg, b1, awake13, Bool.not_true, cond_f, g1, w1, rB0, rP0, mz, m1, rB1, rP1, m2, l1', sum0]
end Ev
