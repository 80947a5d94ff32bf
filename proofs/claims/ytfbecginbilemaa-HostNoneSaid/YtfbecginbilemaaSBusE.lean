/- The bus: commands. -/
import Derived.Test.YtfbecginbilemaaSBusD
namespace Ev
open Go (IntKind)

theorem orB (p q : Bool) (H : Heap) : (cond p (some ((true, ()), H)) (some ((q, ()), H)) : Option ((Bool × Unit) × Heap)) = some ((p || q, ()), H) := by cases p <;> rfl
theorem andB (p q : Bool) (H : Heap) : (cond p (some ((q, ()), H)) (some ((false, ()), H)) : Option ((Bool × Unit) × Heap)) = some ((p && q, ()), H) := by cases p <;> rfl

def Bs.go (k : Bs) : Bool := decide ((k.st : Int) = 3) || decide ((k.st : Int) = 2)
def Bs.is (k : Bs) (c x y : Int) : Bool := decide (c = x) && decide (k.cmd = y)
def Bs.got (a : NdA) (s : Nd) (k : Bs) : Bytes := ((s.readT a (k.blk a) (k.pg a)).1 ++ (s.readT a (k.blk a) (k.pg a)).2.1).drop (min ((s.readT a (k.blk a) (k.pg a)).1 ++ (s.readT a (k.blk a) (k.pg a)).2.1).length k.col)
def Bs.readF (a : NdA) (s : Nd) (k : Bs) : Bs := { (({ k with fail := !decide ((s.readT a (k.blk a) (k.pg a)).2.2.1 = 0) } : Bs).tell (k.got a s)) with busy := 3 }
def Bs.erased (k : Bs) (e : Int) : Bs := { k with fail := !decide (e = 0), st := 0, busy := 15 }
def Bs.endF (a : NdA) (s : Nd) (k : Bs) (c : Int) : Nd × Bs :=
  cond (!k.go) (s, k.violate) (cond (k.is c 48 0) (s, k.readF a s)
    (cond (k.is c 16 128) ((s.progT a (k.blk a) (k.pg a) ((k.over a).take a.S) ((k.over a).drop a.S)).2, k.wrote (s.progT a (k.blk a) (k.pg a) ((k.over a).take a.S) ((k.over a).drop a.S)).1)
      (cond (k.is c 208 96) ((s.eraseT a (k.blk a)).2, k.erased (s.eraseT a (k.blk a)).1) (s, k.violate))))

/-- What holds of a bus whatever comes. -/
structure Good (k : Bs) (T : Int) : Prop where
  wr : k.wrong ≤ T
  s1 : k.st = 1 → (k.addr.length : Int) < wantsN k.cmd ∧ k.want = wantsN k.cmd
  s2 : k.st = 2 → k.addr.length = 5
  s3 : k.st = 3 → (k.addr.length : Int) = wantsN k.cmd
  al : k.addr.length ≤ 5
  inn : k.inn.length ≤ 2000
  out : k.out.length ≤ 2000 ∧ k.at' ≤ k.out.length
  busy : k.busy ≤ 15
theorem wants_le (c : Int) : 1 ≤ wantsN c ∧ wantsN c ≤ 5 := by unfold wantsN; split <;> (try split) <;> omega

section
variable {H : Heap} {L : Nat → Prop} {b : Nat} {a : NdA} {s : Nd} {k : Bs} {sa si : Sl} {T : Int}

theorem Good.go3 (g : Good k T) (h : k.go = true) : (k.cmd = 0 ∨ k.cmd = 128 → k.addr.length = 5) ∧ (k.cmd = 96 → 3 ≤ k.addr.length) := by
  unfold Bs.go at h
  rcases Bool.or_eq_true _ _ ▸ h with h | h
  · have := g.s3 (by have := of_decide_eq_true h; omega)
    refine ⟨fun h => ?_, fun h => ?_⟩
    · rcases h with h | h <;> (rw [h] at this; have e : wantsN 0 = 5 := rfl; have e2 : wantsN 128 = 5 := rfl; omega)
    · rw [h] at this; have e : wantsN 96 = 3 := rfl; omega
  · have := g.s2 (by have := of_decide_eq_true h; omega)
    exact ⟨fun _ => this, fun _ => by omega⟩

theorem bus_end (h : Bx H L b a s k sa si) (w : Wf a s T) (g : Good k T) (hT : T < 999999) (c : Int) :
    ∃ H', bus_Bus_end (some (b, 0)) c H = some ((), H') ∧ Bx H' L b a (k.endF a s c).1 (k.endF a s c).2 sa si ∧ Keep (fun x => ¬ L x) H H' := by
  have hsz := w.sz
  obtain ⟨Hg, g1, g2, g3⟩ := nand_geometry h.nd
  have hg := h.keep g3 fun _ _ => id
  have hlb := h.lb
  have hbl := get_lt hg.cell
  generalize eX : Blk.cells [.int .i64 (a.B : Int), .int .i64 (a.P : Int), .int .i64 (a.S : Int)] .exact = X
  have w1 : wr (Hg ++ [Blk.cells [.int .i64 0, .int .i64 0, .int .i64 0] .exact]) Hg.length 0 [.int .i64 (a.B : Int), .int .i64 (a.P : Int), .int .i64 (a.S : Int)] = some (Hg ++ [X]) := by
    rw [wr_last (by decide) (by simp), ← eX]; rfl
  have hx := hg.push X
  have k0 : Keep (fun x => ¬ L x) H (Hg ++ [X]) := (g3.mono fun _ hf => hf.elim).trans (Keep.push _ _ _)
  have rP : rdI .i64 (Hg ++ [X]) Hg.length 1 = some (a.P : Int) := rdI_of (by rw [← eX]; exact app_last) rfl
  have hP : decide ((a.P : Int) = 0) = false := decide_eq_false (by omega)
  have sm := h.sm
  have gw := g.wr
  obtain ⟨Hv, v1, v2, v3⟩ := bus_violate hx (by omega)
  unfold bus_Bus_end Bs.endF
  cases hgo : k.go with
  | false =>
    have hgo' : (decide ((k.st : Int) = 3) || decide ((k.st : Int) = 2)) = false := hgo
    refine ⟨Hv, ?_, v2, k0.trans v3⟩
    simp only [bind_some, Nat.zero_add, h.rp, g1, w1, hx.rst, orB, hgo', Bool.not_false, cond_t, v1]
  | true =>
    have hgo' : (decide ((k.st : Int) = 3) || decide ((k.st : Int) = 2)) = true := hgo
    obtain ⟨gl, gl3⟩ := g.go3 hgo
    simp only [bind_some, Nat.zero_add, h.rp, g1, w1, hx.rst, orB, hgo', Bool.not_true, cond_f, hx.rcmd, andB]
    cases h1 : k.is c 48 0 with
    | true =>
      have h1' : (decide (c = 48) && decide (k.cmd = 0)) = true := h1
      have hc0 : k.cmd = 0 := of_decide_eq_true (Bool.and_eq_true _ _ ▸ h1').2
      have hal := gl (.inl hc0)
      have hr := bus_row hx (by omega) (by omega)
      have hlt := row_lt k (by omega)
      obtain ⟨H1, p1, p2, p3⟩ := nand_readT hx.nd w (k.blk a) (k.pg a)
      have hc := hx.keep p3 fun _ _ => id
      have hrl := readT_length w (k.blk a) (k.pg a)
      obtain ⟨H2, x1, x2, x3⟩ := hc.wr { k with fail := !decide ((s.readT a (k.blk a) (k.pg a)).2.2.1 = 0) } (j := 9) (v := .bool (!decide ((s.readT a (k.blk a) (k.pg a)).2.2.1 = 0))) (by decide) rfl rfl rfl sm
      have hcol := bus_column x2 (by show 2 ≤ k.addr.length; omega)
      obtain ⟨H3, y1, y2, y3⟩ := bus_tell x2 (k.got a s)
      obtain ⟨H4, z1, z2, z3⟩ := y2.wr (k.readF a s) (j := 8) (v := .int .i64 3) (by decide) rfl rfl rfl (by show 0 ≤ k.wrong ∧ k.wrong < 1000000 ∧ (0 : Nat) < 1000000 ∧ (3 : Nat) < 1000000; omega)
      refine ⟨H4, ?_, z2, ((((k0.trans (p3.mono fun _ hf => hf.elim)).trans (hc.lowb x3)).trans y3).trans (y2.lowb z3))⟩
      have hcat := cat_of (a := (s.readT a (k.blk a) (k.pg a)).1) (b := (s.readT a (k.blk a) (k.pg a)).2.1) (by omega)
      have hmin : (if ((((s.readT a (k.blk a) (k.pg a)).1 ++ (s.readT a (k.blk a) (k.pg a)).2.1).length : Nat) : Int) < (k.col : Int) then ((((s.readT a (k.blk a) (k.pg a)).1 ++ (s.readT a (k.blk a) (k.pg a)).2.1).length : Nat) : Int) else (k.col : Int)) = ((min ((s.readT a (k.blk a) (k.pg a)).1 ++ (s.readT a (k.blk a) (k.pg a)).2.1).length k.col : Nat) : Int) := by
        split <;> omega
      have hcol' : bus_Bus_column (some (b, 0)) H2 = some (((k.col : Int), ()), H2) := hcol
      have hsub := sub_of (s := (s.readT a (k.blk a) (k.pg a)).1 ++ (s.readT a (k.blk a) (k.pg a)).2.1) (lo := min ((s.readT a (k.blk a) (k.pg a)).1 ++ (s.readT a (k.blk a) (k.pg a)).2.1).length k.col) (hi := ((s.readT a (k.blk a) (k.pg a)).1 ++ (s.readT a (k.blk a) (k.pg a)).2.1).length) (by omega) (Nat.le_refl _)
      rw [List.take_length] at hsub
      have hsub' : subS _ _ _ = some (k.got a s) := hsub
      simp only [h1', cond_t, hx.rp, bind_some, rP, hr, hP, cond_f, if_true, div_row k a hlt, mod_row, p1, x1, hcat, hcol', hmin, hsub', y1, z1]
    | false =>
      have h1' : (decide (c = 48) && decide (k.cmd = 0)) = false := h1
      simp only [h1', cond_f]
      cases h2 : k.is c 16 128 with
      | true =>
        have h2' : (decide (c = 16) && decide (k.cmd = 128)) = true := h2
        have hc0 : k.cmd = 128 := of_decide_eq_true (Bool.and_eq_true _ _ ▸ h2').2
        obtain ⟨H1, p1, p2, p3⟩ := bus_write hx w (gl (.inr hc0)) g.inn
        refine ⟨H1, ?_, p2, k0.trans p3⟩
        simp only [h2', cond_t, p1, bind_some]
      | false =>
        have h2' : (decide (c = 16) && decide (k.cmd = 128)) = false := h2
        simp only [h2', cond_f]
        cases h3 : k.is c 208 96 with
        | true =>
          have h3' : (decide (c = 208) && decide (k.cmd = 96)) = true := h3
          have hc0 : k.cmd = 96 := of_decide_eq_true (Bool.and_eq_true _ _ ▸ h3').2
          have hal := gl3 hc0
          have hr := bus_row hx hal (by have := g.al; omega)
          have hlt := row_lt k hal
          obtain ⟨H1, p1, p2, p3⟩ := nand_eraseT hx.nd w (k.blk a)
          generalize ep : s.eraseT a (k.blk a) = pr at p1 p2 ⊢
          have hc := hx.chip p2 p3
          obtain ⟨H2, x1, x2, x3⟩ := hc.wr { k with fail := !decide (pr.1 = 0) } (j := 9) (v := .bool (!decide (pr.1 = 0))) (by decide) rfl rfl rfl sm
          obtain ⟨H3, y1, y2, y3⟩ := x2.wr { k with fail := !decide (pr.1 = 0), st := 0 } (j := 1) (v := .int .i64 0) (by decide) rfl rfl rfl sm
          obtain ⟨H4, z1, z2, z3⟩ := y2.wr (k.erased pr.1) (j := 8) (v := .int .i64 15) (by decide) rfl rfl rfl (by show 0 ≤ k.wrong ∧ k.wrong < 1000000 ∧ k.at' < 1000000 ∧ (15 : Nat) < 1000000; omega)
          refine ⟨H4, ?_, z2, (((k0.trans (hx.lowc p3)).trans (hc.lowb x3)).trans (x2.lowb y3)).trans (y2.lowb z3)⟩
          simp only [h3', cond_t, hx.rp, bind_some, rP, hr, hP, cond_f, if_true, div_row k a hlt, p1, x1, y1, z1]
        | false =>
          have h3' : (decide (c = 208) && decide (k.cmd = 96)) = false := h3
          refine ⟨Hv, ?_, v2, k0.trans v3⟩
          simp only [h3', cond_f, v1, bind_some]
end
end Ev
