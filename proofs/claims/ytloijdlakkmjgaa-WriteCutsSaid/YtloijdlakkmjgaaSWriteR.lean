/- The writer: a page is read; a new one. -/
import Derived.Test.YtloijdlakkmjgaaSWriteH
namespace Ev
open Go (IntKind)

def readW (a : NdA) (s : Nd) (k : Nat) : Tg × Bytes × Int × Unit :=
  if (s.readT a ((k / a.P : Nat) : Int) ((k % a.P : Nat) : Int)).2.2.1 = 0 then
    if (lookP (s.readT a ((k / a.P : Nat) : Int) ((k % a.P : Nat) : Int)).1 (s.readT a ((k / a.P : Nat) : Int) ((k % a.P : Nat) : Int)).2.1).1 = 1 then
      ((lookP (s.readT a ((k / a.P : Nat) : Int) ((k % a.P : Nat) : Int)).1 (s.readT a ((k / a.P : Nat) : Int) ((k % a.P : Nat) : Int)).2.1).2.1, (lookP (s.readT a ((k / a.P : Nat) : Int) ((k % a.P : Nat) : Int)).1 (s.readT a ((k / a.P : Nat) : Int) ((k % a.P : Nat) : Int)).2.1).2.2.1, 0, ())
    else (tag0, [], 3, ())
  else (tag0, [], (s.readT a ((k / a.P : Nat) : Int) ((k % a.P : Nat) : Int)).2.2.1, ())

section
variable {N : Nat → Prop} {H : Heap} {z : WrA} {a : NdA} {e : LfA} {s : Nd} {v : Wr} {sb : Sl} {D : Int}

theorem write_Read (h : WrAt N H z a e s v sb) (w : Wf a s D) {k : Nat} (hk : k < 1000000) : ∃ H', write_Writer_Read (some (z.w, 0)) (k : Int) H = some ((readW a s k), H') ∧ WrAt N H' z a e s v sb ∧ Keep (fun _ => False) H H' := by
  have hsz := w.sz
  have h1 := h.push (tagB tag0)
  obtain ⟨G, g1, g2, g3⟩ := nand_geometry h1.nd
  have hg := h1.keep g3 fun _ _ => id
  have ht0 : G[H.length]? = some (tagB tag0) := g3.get app_last id
  have hP : decide ((a.P : Int) = 0) = false := decide_eq_false (by omega)
  have hdv : IntKind.wrap .i64 (Int.tdiv (k : Int) (a.P : Int)) = ((k / a.P : Nat) : Int) := by
    show IntKind.wrap .i64 ((k / a.P : Nat) : Int) = _
    have h2 := Nat.div_le_self k a.P
    generalize k / a.P = q at h2
    exact wrap_i64 (by omega) (by omega)
  have hmd : Int.tmod (k : Int) (a.P : Int) = ((k % a.P : Nat) : Int) := rfl
  obtain ⟨R, p1, p2, p3⟩ := nand_readT hg.nd w ((k / a.P : Nat) : Int) ((k % a.P : Nat) : Int)
  have hrl := readT_length w ((k / a.P : Nat) : Int) ((k % a.P : Nat) : Int)
  have hR := hg.keep p3 fun _ _ => id
  have htR : R[H.length]? = some (tagB tag0) := p3.get ht0 id
  have hlR := get_lt htR
  have kR : Keep (fun _ => False) H R := ((Keep.push _ _ _).trans g3).trans p3
  have q1 : H ++ [Blk.cells [.int .i64 0, .int .u64 0, .int .i64 0, .int .i64 0, .int .i64 0] .exact] = H ++ [tagB tag0] := rfl
  unfold write_Writer_Read readW
  simp only [q1, Option.isNone_some, cond_f, bind_some, Nat.zero_add, h1.rc, g1, hg.rc, hP, hdv, hmd, p1]
  generalize s.readT a ((k / a.P : Nat) : Int) ((k % a.P : Nat) : Int) = r at *
  -- what the tag's block is set to, and read again
  have put : ∀ (X : Heap) (u : Tg), X[H.length]? = some (tagB u) → ∀ t : Tg, wr X H.length 0 [.int .i64 t.1, .int .u64 t.2.1, .int .i64 t.2.2.1, .int .i64 t.2.2.2.1, .int .i64 t.2.2.2.2.1] = some (X.set H.length (tagB t)) := fun X u hX t => wr_tag X H.length u hX t
  have kset : ∀ (X : Heap) (t : Tg), Keep (fun _ => False) H X → H.length < X.length → Keep (fun _ => False) H (X.set H.length (tagB t)) := fun X t kx hx => ⟨by rw [List.length_set]; exact kx.len, fun j hj _ => by rw [set_get' (by omega)]; exact kx.same j hj id⟩
  have hown : ∀ (X : Heap) (t : Tg), WrAt N X z a e s v sb → WrAt N (X.set H.length (tagB t)) z a e s v sb := fun X t hX => hX.keep (Keep.set (F := fun j => j = H.length) _ _ _ rfl) fun j hj hf => by have := h.lt hj; omega
  by_cases e0 : r.2.2.1 = 0
  · have hl := page_Look_eq r.1 r.2.1 (by omega) (by omega)
    rw [if_pos e0]
    generalize lookP r.1 r.2.1 = lk at hl ⊢
    have wl : wr (R ++ [Blk.cells [.int .i64 0, .int .u64 0, .int .i64 0, .int .i64 0, .int .i64 0] .exact]) R.length 0 [.int .i64 lk.2.1.1, .int .u64 lk.2.1.2.1, .int .i64 lk.2.1.2.2.1, .int .i64 lk.2.1.2.2.2.1, .int .i64 lk.2.1.2.2.2.2.1] = some (R ++ [tagB lk.2.1]) := by
      rw [show R ++ [Blk.cells [.int .i64 0, .int .u64 0, .int .i64 0, .int .i64 0, .int .i64 0] .exact] = R ++ [tagB tag0] from rfl, wr_tag _ _ tag0 app_last, set_last]
    have hR2 := hR.push (tagB lk.2.1)
    have k2 : Keep (fun _ => False) H (R ++ [tagB lk.2.1]) := kR.trans (Keep.push _ _ _)
    have ht2 : (R ++ [tagB lk.2.1])[H.length]? = some (tagB tag0) := by rw [app_lt hlR]; exact htR
    by_cases e1 : lk.1 = 1
    · rw [if_pos e1]
      have rl : @Eq (Option Tg) (rd (R ++ [tagB lk.2.1]) (.agg [.int .i64, .int .u64, .int .i64, .int .i64, .int .i64]) R.length 0) (some lk.2.1) := rd_tag app_last
      have rr : @Eq (Option Tg) (rd ((R ++ [tagB lk.2.1]).set H.length (tagB lk.2.1)) (.agg [.int .i64, .int .u64, .int .i64, .int .i64, .int .i64]) H.length 0) (some lk.2.1) := rd_tag (set_get (get_lt ht2))
      refine ⟨(R ++ [tagB lk.2.1]).set H.length (tagB lk.2.1), ?_, hown _ _ hR2, kset _ _ k2 (get_lt ht2)⟩
      simp only [decide_eq_true e0, Bool.not_true, cond_f, hl, bind_some, wl, decide_eq_true e1, rl, put _ _ ht2 lk.2.1, rr]
    · rw [if_neg e1]
      have pz := put _ _ ht2 tag0
      have rr : @Eq (Option Tg) (rd ((R ++ [tagB lk.2.1]).set H.length (tagB tag0)) (.agg [.int .i64, .int .u64, .int .i64, .int .i64, .int .i64]) H.length 0) (some tag0) := rd_tag (set_get (get_lt ht2))
      have pz' : wr (R ++ [tagB lk.2.1]) H.length 0 [.int .i64 0, .int .u64 0, .int .i64 0, .int .i64 0, .int .i64 0] = some ((R ++ [tagB lk.2.1]).set H.length (tagB tag0)) := pz
      refine ⟨(R ++ [tagB lk.2.1]).set H.length (tagB tag0), ?_, hown _ _ hR2, kset _ _ k2 (get_lt ht2)⟩
      simp only [decide_eq_true e0, Bool.not_true, cond_f, hl, bind_some, wl, decide_eq_false e1, Bool.not_false, cond_t, pz', rr]
  · rw [if_neg e0]
    have pz' : wr R H.length 0 [.int .i64 0, .int .u64 0, .int .i64 0, .int .i64 0, .int .i64 0] = some (R.set H.length (tagB tag0)) := put _ _ htR tag0
    have rr : @Eq (Option Tg) (rd (R.set H.length (tagB tag0)) (.agg [.int .i64, .int .u64, .int .i64, .int .i64, .int .i64]) H.length 0) (some tag0) := rd_tag (set_get hlR)
    refine ⟨R.set H.length (tagB tag0), ?_, hown _ _ hR, kset _ _ kR hlR⟩
    simp only [decide_eq_false e0, Bool.not_false, cond_t, pz', bind_some, rr]
end
end Ev
