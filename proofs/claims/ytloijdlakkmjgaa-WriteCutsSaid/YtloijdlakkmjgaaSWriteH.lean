/- The writer: a page is written. -/
import Derived.Test.YtloijdlakkmjgaaSWriteG
import Derived.Test.YtloijdlakkmjgaaSPv
namespace Ev
open Go (IntKind)

def Tg.worn (t : Tg) (n : Int) : Tg := (t.1, t.2.1, t.2.2.1, t.2.2.2.1, n, ())
/-- A page of a block is tried. -/
def tryW (a : NdA) (s : Nd) (t : Tg) (x : Bytes) (v : Wr) (b : Nat) : Int × Nd := s.progT a (b : Int) (v.lf.nx : Int) (dataOf x a.S) (spareOf (t.worn (v.worn b)) x a.S)

section
variable {N : Nat → Prop} {H : Heap} {z : WrA} {a : NdA} {e : LfA} {s : Nd} {v : Wr} {sb : Sl} {D : Int}

/-- What one round asks for, and what it comes to; J: what holds ahead of a round; Q: what is told. -/
def RoundW (a : NdA) (e : LfA) (t : Tg) (x : Bytes) (J : Nd → Wr → Prop) (Q : Nd → Wr → Int → Int → Prop) (μ : Nd → Wr → Nat) (s : Nd) (v : Wr) : Prop :=
  (∃ D, Wf a s D ∧ D + 5 ≤ 1000000) ∧ v.bad.length < 1000000 ∧ ∀ r v1, Opened e v r v1 → (r = false → Q s v1 0 130) ∧ (r = true → ∃ b, b < e.B ∧ v1.lf.op = (b : Int) ∧ v1.lf.nx < 1000 ∧ tagOK (t.worn (v1.worn b)) = true ∧
    ((tryW a s t x v1 b).1 = 0 → Q (tryW a s t x v1 b).2 { v1 with lf := v1.lf.took e b } ((b * a.P + v1.lf.nx : Nat) : Int) 0) ∧
    ((tryW a s t x v1 b).1 = 53 → (((tryW a s t x v1 b).2.markT a (b : Int)).1 ≠ 0 → Q ((tryW a s t x v1 b).2.markT a (b : Int)).2 (({ v1 with lf := v1.lf.took e b } : Wr).spoilt b) 0 ((tryW a s t x v1 b).2.markT a (b : Int)).1) ∧
      (((tryW a s t x v1 b).2.markT a (b : Int)).1 = 0 → J ((tryW a s t x v1 b).2.markT a (b : Int)).2 (({ v1 with lf := v1.lf.took e b } : Wr).spoilt b) ∧ μ ((tryW a s t x v1 b).2.markT a (b : Int)).2 (({ v1 with lf := v1.lf.took e b } : Wr).spoilt b) < μ s v)) ∧
    ((tryW a s t x v1 b).1 = 52 → J (tryW a s t x v1 b).2 { v1 with lf := (v1.lf.took e b).set b 2 } ∧ μ (tryW a s t x v1 b).2 { v1 with lf := (v1.lf.took e b).set b 2 } < μ s v) ∧
    ((tryW a s t x v1 b).1 ≠ 0 → (tryW a s t x v1 b).1 ≠ 53 → (tryW a s t x v1 b).1 ≠ 52 → Q (tryW a s t x v1 b).2 { v1 with lf := v1.lf.took e b } 0 (tryW a s t x v1 b).1))

theorem write_Append_no (h : WrAt N H z a e s v sb) {t : Tg} {x : Bytes} (hno : tagOK (t.worn 0) = false ∨ a.S < x.length) : ∃ H', write_Writer_Append (some (z.w, 0)) t x H = some ((0, 1, ()), H') ∧ WrAt N H' z a e s v sb ∧ Keep (fun _ => False) H H' := by
  have h1 := h.push (tagB t)
  obtain ⟨G, g1, g2, g3⟩ := nand_geometry h1.nd
  have hg := h1.keep g3 fun _ _ => id
  let zB : Blk := .cells [.int .i64 (a.B : Int), .int .i64 (a.P : Int), .int .i64 (a.S : Int)] .exact
  have w1 : wr (G ++ [Blk.cells [.int .i64 0, .int .i64 0, .int .i64 0] .exact]) G.length 0 [.int .i64 (a.B : Int), .int .i64 (a.P : Int), .int .i64 (a.S : Int)] = some (G ++ [zB]) := by
    rw [wr_last (by decide) (by simp)]; rfl
  have ht0 : G[H.length]? = some (tagB t) := g3.get app_last id
  have hlG := get_lt ht0
  have ht : (G ++ [zB])[H.length]? = some (tagB t) := by rw [app_lt hlG]; exact ht0
  have w2 : wr (G ++ [zB]) H.length 4 [.int .i64 0] = some ((G ++ [zB]).set H.length (tagB (t.worn 0))) := wr1_of ht (by decide) (by simp)
  have r1 : @Eq (Option Tg) (rd ((G ++ [zB]).set H.length (tagB (t.worn 0))) (.agg [.int .i64, .int .u64, .int .i64, .int .i64, .int .i64]) H.length 0) (some (t.worn 0)) := rd_tag (set_get (get_lt ht))
  have r2 : rdI .i64 ((G ++ [zB]).set H.length (tagB (t.worn 0))) G.length 2 = some (a.S : Int) := rdI_of (by rw [set_get' (by omega)]; exact app_last) rfl
  have fr : page_Frame (t.worn 0) x (a.S : Int) = some ([], [], 1, ()) := page_Frame_no (by
    rcases hno with hh | hh
    · exact .inl hh
    · exact .inr (.inr (.inr (by omega))))
  have kp : Keep (fun k => k = H.length) (G ++ [zB]) ((G ++ [zB]).set H.length (tagB (t.worn 0))) := Keep.set _ _ _ rfl
  refine ⟨_, ?_, (hg.push zB).keep kp fun k hk hf => by have := h.lt hk; omega, ?_⟩
  · have q1 : H ++ [Blk.cells [.int .i64 t.1, .int .u64 t.2.1, .int .i64 t.2.2.1, .int .i64 t.2.2.2.1, .int .i64 t.2.2.2.2.1] .exact] = H ++ [tagB t] := rfl
    unfold write_Writer_Append
    have fr' : page_Frame ((t.worn 0).1, (t.worn 0).2.1, (t.worn 0).2.2.1, (t.worn 0).2.2.2.1, (t.worn 0).2.2.2.2.1, ()) x (a.S : Int) = some ([], [], 1, ()) := fr
    have hd : (!decide ((1 : Int) = 0)) = true := rfl
    simp only [q1, Option.isNone_some, cond_f, bind_some, Nat.zero_add, h1.rc, g1, w1, w2, r1, r2, fr', hd, cond_t]
  · have k1 : Keep (fun _ => False) H (G ++ [zB]) := ((Keep.push _ _ _).trans g3).trans (Keep.push _ _ _)
    exact ⟨by have := k1.len; have := kp.len; omega, fun k hk _ => by rw [kp.same k (by have := k1.len; omega) (by omega), k1.same k hk id]⟩

theorem write_Append_run {J : Nd → Wr → Prop} {Q : Nd → Wr → Int → Int → Prop} (μ : Nd → Wr → Nat) {t : Tg} {x : Bytes} (h : WrAt N H z a e s v sb) (ht0 : tagOK (t.worn 0) = true) (hseq : 0 ≤ t.2.1 ∧ t.2.1 < 18446744073709551616) (hx : x.length ≤ a.S) (hS : a.S ≤ 1000 ∧ a.B ≤ 1000 ∧ a.P ≤ 1000)
    (hj : J s v) (hr : ∀ s v, J s v → RoundW a e t x J Q μ s v) :
    ∃ H' at' er s' v' sb', write_Writer_Append (some (z.w, 0)) t x H = some ((at', er, ()), H') ∧ WrAt N H' z a e s' v' sb' ∧ Keep (fun k => ¬ N k) H H' ∧ Q s' v' at' er := by
  have h1 := h.push (tagB t)
  obtain ⟨G, g1, g2, g3⟩ := nand_geometry h1.nd
  have hg := h1.keep g3 fun _ _ => id
  let zB : Blk := .cells [.int .i64 (a.B : Int), .int .i64 (a.P : Int), .int .i64 (a.S : Int)] .exact
  have w1 : wr (G ++ [Blk.cells [.int .i64 0, .int .i64 0, .int .i64 0] .exact]) G.length 0 [.int .i64 (a.B : Int), .int .i64 (a.P : Int), .int .i64 (a.S : Int)] = some (G ++ [zB]) := by
    rw [wr_last (by decide) (by simp)]; rfl
  have htg0 : G[H.length]? = some (tagB t) := g3.get app_last id
  have hlG := get_lt htg0
  have htg : (G ++ [zB])[H.length]? = some (tagB t) := by rw [app_lt hlG]; exact htg0
  have w2 : wr (G ++ [zB]) H.length 4 [.int .i64 0] = some ((G ++ [zB]).set H.length (tagB (t.worn 0))) := wr1_of htg (by decide) (by simp)
  have kp : Keep (fun k => k = H.length) (G ++ [zB]) ((G ++ [zB]).set H.length (tagB (t.worn 0))) := Keep.set _ _ _ rfl
  generalize eG7 : (G ++ [zB]).set H.length (tagB (t.worn 0)) = G7 at w2 kp
  have htag7 : G7[H.length]? = some (tagB (t.worn 0)) := by rw [← eG7]; exact set_get (get_lt htg)
  have hgeo7 : G7[G.length]? = some zB := by rw [← eG7, set_get' (by omega)]; exact app_last
  have h7 : WrAt N G7 z a e s v sb := (hg.push zB).keep kp fun k hk hf => by have := h.lt hk; omega
  let M : Nat → Prop := fun k => N k ∨ k = H.length ∨ k = G.length
  have hlt7 := get_lt hgeo7
  have h7' : WrAt M G7 z a e s v sb := h7.more (fun k hk hm => by
    have := h.lt hk
    rcases hm with hm | hm | hm
    · exact h.nN k hk hm
    · omega
    · omega) (fun k hm => by
    rcases hm with hm | hm | hm
    · exact h7.NL k hm
    · omega
    · omega)
  have r1 : @Eq (Option Tg) (rd G7 (.agg [.int .i64, .int .u64, .int .i64, .int .i64, .int .i64]) H.length 0) (some (t.worn 0)) := rd_tag htag7
  have r2 : rdI .i64 G7 G.length 2 = some (a.S : Int) := rdI_of hgeo7 rfl
  have fr : page_Frame (t.worn 0) x (a.S : Int) = some (dataOf x a.S, spareOf (t.worn 0) x a.S, 0, ()) := page_Frame_yes ht0 hseq (by omega) hx
  have k7 : Keep (fun k => ¬ N k) H G7 := by
    have k1 : Keep (fun _ => False) H (G ++ [zB]) := ((Keep.push _ _ _).trans g3).trans (Keep.push _ _ _)
    exact ⟨by have := k1.len; have := kp.len; omega, fun k hk _ => by rw [kp.same k (by have := k1.len; omega) (by omega), k1.same k hk id]⟩
  obtain ⟨y, H', l1, s', v', sb', l2, l3, l4⟩ : ∃ y H', loopW (write_Writer_Append.s1 (some (z.w, 0)) x H ((((a.B : Int), (a.P : Int), (a.S : Int), ()), ()), G)) () G7 = some (y, H') ∧ ∃ s' v' sb', WrAt M H' z a e s' v' sb' ∧ Keep (fun k => ¬ N k) G7 H' ∧ Q s' v' (Sum.elim (fun _ => 0) (fun q => q.1) y) (Sum.elim (fun _ => 130) (fun q => q.2.1) y) := by
    have key : ∀ n, ∀ (s : Nd) (v : Wr) (sb : Sl) (A : Heap) (c : Int), μ s v ≤ n → J s v → WrAt M A z a e s v sb → A[H.length]? = some (tagB (t.worn c)) → A[G.length]? = some zB → ∃ m y H', iter (write_Writer_Append.s1 (some (z.w, 0)) x H ((((a.B : Int), (a.P : Int), (a.S : Int), ()), ()), G)) m () A = some (y, H') ∧ ∃ s' v' sb', WrAt M H' z a e s' v' sb' ∧ Keep (fun k => ¬ N k) A H' ∧ Q s' v' (Sum.elim (fun _ => 0) (fun q => q.1) y) (Sum.elim (fun _ => 130) (fun q => q.2.1) y) := by
      have ground : ∀ (s : Nd) (v : Wr) (sb : Sl) (A : Heap) (c : Int), J s v → WrAt M A z a e s v sb → A[H.length]? = some (tagB (t.worn c)) → A[G.length]? = some zB →
          (∃ y A', write_Writer_Append.s1 (some (z.w, 0)) x H ((((a.B : Int), (a.P : Int), (a.S : Int), ()), ()), G) () A = some (.inr y, A') ∧ ∃ s' v' sb', WrAt M A' z a e s' v' sb' ∧ Keep (fun k => ¬ N k) A A' ∧ Q s' v' (Sum.elim (fun _ => 0) (fun q => q.1) y) (Sum.elim (fun _ => 130) (fun q => q.2.1) y)) ∨
          (∃ A' s' v' sb' c', write_Writer_Append.s1 (some (z.w, 0)) x H ((((a.B : Int), (a.P : Int), (a.S : Int), ()), ()), G) () A = some (.inl (), A') ∧ J s' v' ∧ μ s' v' < μ s v ∧ WrAt M A' z a e s' v' sb' ∧ Keep (fun k => ¬ N k) A A' ∧ A'[H.length]? = some (tagB (t.worn c')) ∧ A'[G.length]? = some zB) := by
        intro s v sb A c hJ hA htA hgA
        have mN : ∀ {X Y : Heap}, Keep (fun k => ¬ M k) X Y → Keep (fun k => ¬ N k) X Y := fun k => k.mono fun j hj hn => hj (.inl hn)
        obtain ⟨⟨D, wf, hD⟩, hbl, hround⟩ := hr s v hJ
        obtain ⟨A1, r, v1, o1, o2, o3, o4⟩ := write_open hA
        have hbad : v1.bad = v.bad := by
          rcases o4 with ⟨_, _, rfl⟩ | ⟨_, _, b, _, _, _, rfl⟩ | ⟨_, _, _, rfl⟩ <;> rfl
        cases r with
        | false =>
          refine .inl ⟨.inl (), A1, ?_, s, v1, sb, o2, mN o3, (hround false v1 o4).1 rfl⟩
          unfold write_Writer_Append.s1
          simp only [o1, bind_some, cond_f]
        | true =>
          obtain ⟨b, hb, hop, hnx, htok, c0, c53, c52, cx⟩ := (hround true v1 o4).2 rfl
          obtain ⟨A2, t1, t2, t3⟩ := life_Take o2.lf hb hop hnx
          have h2 := o2.life t2 t3
          have k2 : Keep (fun k => ¬ M k) A A2 := o3.trans (o2.nl t3)
          have htA2 := k2.get htA (fun hm => hm (.inr (.inl rfl)))
          have hgA2 := k2.get hgA (fun hm => hm (.inr (.inr rfl)))
          have w3 : wr A2 H.length 4 [.int .i64 (v1.worn b)] = some (A2.set H.length (tagB (t.worn (v1.worn b)))) := wr1_of htA2 (by decide) (by simp)
          have kp3 : Keep (fun k => k = H.length) A2 (A2.set H.length (tagB (t.worn (v1.worn b)))) := Keep.set _ _ _ rfl
          generalize eA3 : A2.set H.length (tagB (t.worn (v1.worn b))) = A3 at w3 kp3
          have htA3 : A3[H.length]? = some (tagB (t.worn (v1.worn b))) := by rw [← eA3]; exact set_get (get_lt htA2)
          have hgA3 : A3[G.length]? = some zB := by rw [← eA3, set_get' (by omega)]; exact hgA2
          have h3 : WrAt M A3 z a e s { v1 with lf := v1.lf.took e b } sb := h2.keep kp3 fun k hk hf => h2.nN k hk (.inr (.inl hf))
          have nH : ¬ N H.length := fun hn => by have := h.NL _ hn; omega
          have k3 : Keep (fun k => ¬ N k) A A3 := (mN k2).trans (kp3.mono fun k hk => by rw [hk]; exact nH)
          have rt : @Eq (Option Tg) (rd A3 (.agg [.int .i64, .int .u64, .int .i64, .int .i64, .int .i64]) H.length 0) (some (t.worn (v1.worn b))) := rd_tag htA3
          have rS : rdI .i64 A3 G.length 2 = some (a.S : Int) := rdI_of hgA3 rfl
          have frb : page_Frame ((t.worn (v1.worn b)).1, (t.worn (v1.worn b)).2.1, (t.worn (v1.worn b)).2.2.1, (t.worn (v1.worn b)).2.2.2.1, (t.worn (v1.worn b)).2.2.2.2.1, ()) x (a.S : Int) = some (dataOf x a.S, spareOf (t.worn (v1.worn b)) x a.S, 0, ()) := page_Frame_yes htok hseq (by omega) hx
          obtain ⟨A4, p1, p2, p3⟩ := nand_programT h3.nd wf (b : Int) (v1.lf.nx : Int) (dataOf x a.S) (spareOf (t.worn (v1.worn b)) x a.S)
          have wf4 := (wf.progT (by omega) (b : Int) (v1.lf.nx : Int) (dataOf x a.S) (spareOf (t.worn (v1.worn b)) x a.S)).1
          have etry : s.progT a (b : Int) (v1.lf.nx : Int) (dataOf x a.S) (spareOf (t.worn (v1.worn b)) x a.S) = tryW a s t x v1 b := rfl
          rw [etry] at p1 p2 wf4
          have h4 := h3.chip p2 p3
          have k4 := k3.trans (mN (h3.nc p3))
          have k4M := h3.nc p3
          have htA4 := k4M.get htA3 (fun hm => hm (.inr (.inl rfl)))
          have hgA4 := k4M.get hgA3 (fun hm => hm (.inr (.inr rfl)))
          have pre : ∀ {R : Option (((Unit) ⊕ ((Unit) ⊕ (Int × Int × Unit))) × Heap)}, (cond (decide ((tryW a s t x v1 b).1 = 0)) ((rdI .i64 A4 G.length 1).bind fun (v28 : Int) => some (Sum.inr (Sum.inr ((IntKind.wrap .i64 ((IntKind.wrap .i64 ((b : Int) * v28)) + (v1.lf.nx : Int))), 0, ())), A4)) (
 cond (decide ((tryW a s t x v1 b).1 = 53)) (
 (write_Writer_spoil (some (z.w, 0)) (b : Int) A4).bind fun (r29 : ((Int × Unit) × Heap)) =>
 cond (!decide (r29.1.1 = 0)) (
 some (Sum.inr (Sum.inr (0, r29.1.1, ())), r29.2)) (
 some (Sum.inl (()), r29.2))) (
 cond (decide ((tryW a s t x v1 b).1 = 52)) (
 (life_Life_Full (some (e.c, 0)) (b : Int) A4).bind fun (r32 : ((Bool × Unit) × Heap)) =>
 some (Sum.inl (()), r32.2)) (
 some (Sum.inr (Sum.inr (0, (tryW a s t x v1 b).1, ())), A4))))) = R → write_Writer_Append.s1 (some (z.w, 0)) x H ((((a.B : Int), (a.P : Int), (a.S : Int), ()), ()), G) () A = R := by
            intro R hR
            rw [← hR]
            unfold write_Writer_Append.s1
            simp only [o1, bind_some, cond_t, Nat.zero_add, o2.rl, t1, h2.rw', WrAt.wat b hb, h2.ri hb, w3, rt, rS, frb, h3.rc, p1, h4.rl]
          by_cases e0 : (tryW a s t x v1 b).1 = 0
          · refine .inl ⟨.inr (((b * a.P + v1.lf.nx : Nat) : Int), 0, ()), A4, pre ?_, _, _, sb, h4, k4, c0 e0⟩
            have hbB : b < a.B := by rw [← h.eB.1]; exact hb
            have hbP : b * a.P ≤ 1000000 := by
              have := Nat.mul_le_mul (show b ≤ 1000 by omega) hS.2.2
              omega
            have ew : IntKind.wrap .i64 (IntKind.wrap .i64 ((b : Int) * (a.P : Int)) + (v1.lf.nx : Int)) = ((b * a.P + v1.lf.nx : Nat) : Int) := by
              have ew1 : IntKind.wrap .i64 ((b : Int) * (a.P : Int)) = ((b * a.P : Nat) : Int) := by rw [← Int.natCast_mul]; generalize b * a.P = bp at hbP; exact wrap_i64 (by omega) (by omega)
              rw [ew1]
              generalize b * a.P = bp at hbP
              rw [wrap_i64 (by omega) (by omega)]; omega
            have rP : rdI .i64 A4 G.length 1 = some (a.P : Int) := rdI_of hgA4 rfl
            simp only [decide_eq_true e0, cond_t, rP, bind_some, ew]
          · by_cases e53 : (tryW a s t x v1 b).1 = 53
            · obtain ⟨A5, sb', q1, q2, q3⟩ := write_spoil h4 wf4 hb (by rw [show ({ v1 with lf := v1.lf.took e b } : Wr).bad = v1.bad from rfl, hbad]; exact hbl)
              by_cases em : ((tryW a s t x v1 b).2.markT a (b : Int)).1 = 0
              · obtain ⟨j1, j2⟩ := (c53 e53).2 em
                refine .inr ⟨A5, _, _, sb', v1.worn b, pre ?_, j1, j2, q2, k4.trans (mN q3), q3.get htA4 (fun hm => hm (.inr (.inl rfl))), q3.get hgA4 (fun hm => hm (.inr (.inr rfl)))⟩
                simp only [decide_eq_false e0, cond_f, decide_eq_true e53, cond_t, q1, bind_some, decide_eq_true em, Bool.not_true]
              · refine .inl ⟨.inr (0, ((tryW a s t x v1 b).2.markT a (b : Int)).1, ()), A5, pre ?_, _, _, sb', q2, k4.trans (mN q3), (c53 e53).1 em⟩
                simp only [decide_eq_false e0, cond_f, decide_eq_true e53, cond_t, q1, bind_some, decide_eq_false em, Bool.not_false]
            · by_cases e52 : (tryW a s t x v1 b).1 = 52
              · obtain ⟨A5, q1, q2, q3⟩ := life_Full h4.lf hb
                have h5 := h4.life q2 q3
                have k5 := h4.nl q3
                obtain ⟨j1, j2⟩ := c52 e52
                refine .inr ⟨A5, _, _, sb, v1.worn b, pre ?_, j1, j2, h5, k4.trans (mN k5), k5.get htA4 (fun hm => hm (.inr (.inl rfl))), k5.get hgA4 (fun hm => hm (.inr (.inr rfl)))⟩
                simp only [decide_eq_false e0, cond_f, decide_eq_false e53, decide_eq_true e52, cond_t, q1, bind_some]
              · refine .inl ⟨.inr (0, (tryW a s t x v1 b).1, ()), A4, pre ?_, _, _, sb, h4, k4, cx e0 e53 e52⟩
                simp only [decide_eq_false e0, cond_f, decide_eq_false e53, decide_eq_false e52]
      intro n
      induction n with
      | zero =>
        intro s v sb A c hm hJ hA h1' h2'
        rcases ground s v sb A c hJ hA h1' h2' with ⟨y, A', g1, g2⟩ | ⟨A', s', v', sb', c', _, _, g3, _⟩
        · exact ⟨1, y, A', by rw [iter, g1]; rfl, g2⟩
        · omega
      | succ n ih =>
        intro s v sb A c hm hJ hA h1' h2'
        rcases ground s v sb A c hJ hA h1' h2' with ⟨y, A', g1, g2⟩ | ⟨A', s', v', sb', c', g1, g2, g3, g4, g5, g6, g7⟩
        · exact ⟨1, y, A', by rw [iter, g1]; rfl, g2⟩
        · obtain ⟨m, y, B', i1, s2, v2, sb2, i2, i3, i4⟩ := ih s' v' sb' A' c' (by omega) g2 g4 g6 g7
          exact ⟨m + 1, y, B', by rw [iter, g1]; exact i1, s2, v2, sb2, i2, g5.trans i3, i4⟩
    obtain ⟨m, y, H', i1, i2⟩ := key _ s v sb G7 0 (Nat.le_refl _) hj h7' htag7 hgeo7
    exact ⟨y, H', loopW_eq i1, i2⟩
  have hres : WrAt N H' z a e s' v' sb' := l2.more (fun k hk hn => l2.nN k hk (.inl hn)) (fun k hn => l2.NL k (.inl hn))
  have q1 : H ++ [Blk.cells [.int .i64 t.1, .int .u64 t.2.1, .int .i64 t.2.2.1, .int .i64 t.2.2.2.1, .int .i64 t.2.2.2.2.1] .exact] = H ++ [tagB t] := rfl
  have fr' : page_Frame ((t.worn 0).1, (t.worn 0).2.1, (t.worn 0).2.2.1, (t.worn 0).2.2.2.1, (t.worn 0).2.2.2.2.1, ()) x (a.S : Int) = some (dataOf x a.S, spareOf (t.worn 0) x a.S, 0, ()) := fr
  cases y with
  | inl u =>
    refine ⟨H', 0, 130, s', v', sb', ?_, hres, k7.trans l3, l4⟩
    unfold write_Writer_Append
    simp only [q1, Option.isNone_some, cond_f, bind_some, Nat.zero_add, h1.rc, g1, w1, w2, r1, r2, fr', decide_true, Bool.not_true, l1, Sum.elim_inl]
  | inr q =>
    refine ⟨H', q.1, q.2.1, s', v', sb', ?_, hres, k7.trans l3, l4⟩
    unfold write_Writer_Append
    simp only [q1, Option.isNone_some, cond_f, bind_some, Nat.zero_add, h1.rc, g1, w1, w2, r1, r2, fr', decide_true, Bool.not_true, l1, Sum.elim_inr]
end
end Ev
