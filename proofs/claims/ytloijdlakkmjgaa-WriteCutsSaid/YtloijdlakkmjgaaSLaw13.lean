/- Chapter 13: a chip and a writer; tags. -/
import Derived.Test.YtloijdlakkmjgaaGLaw13
import Derived.Test.YtloijdlakkmjgaaSGeo
import Derived.Test.YtloijdlakkmjgaaSWriteN
namespace Ev
open Go (IntKind)

def tagN (n : Nat) : Tg := (1, (n : Int), 0, 1, 0, ())
theorem tag_eq {n : Nat} (hn : n < 4294967296) : law13_tag (n : Int) = some (tagN n, ()) := by
  have ew : IntKind.wrap .u64 (n : Int) = (n : Int) := by rw [wrap_u64]; omega
  unfold law13_tag law13_tag.on
  have w1 := wr_tag ([] ++ [tagB tag0]) 0 tag0 rfl (tagN n)
  have w1' : wr ([] ++ [Blk.cells [.int .i64 0, .int .u64 0, .int .i64 0, .int .i64 0, .int .i64 0] .exact]) ([] : Heap).length 0 [.int .i64 1, .int .u64 (n : Int), .int .i64 0, .int .i64 1, .int .i64 0] = some [tagB (tagN n)] := w1
  have r1 : @Eq (Option Tg) (rd [tagB (tagN n)] (.agg [.int .i64, .int .u64, .int .i64, .int .i64, .int .i64]) ([] : Heap).length 0) (some (tagN n)) := rd_tag rfl
  simp only [ew, w1', bind_some, r1]
theorem tag_ok {n : Nat} {w : Int} (hw : 0 ≤ w ∧ w < 4294967296) : tagOK ((tagN n).worn w) = true := decide_eq_true (by simp [Tg.worn, tagN]; omega)

def Wr.new : Wr := ⟨Lf.new, fun _ => 0, []⟩
theorem begun13 {H : Heap} {f1 f2 f3 t1 t2 : Sl} {cuts : List Cut} {fails : List Int} (g : Geo)
    (s1 : Sl.sub 3 f1 0 (if 8 < (f1.len : Int) then 8 else (f1.len : Int)) (f1.cap : Int) = some t1)
    (s2 : Sl.sub 1 f2 0 (if 8 < (f2.len : Int) then 8 else (f2.len : Int)) (f2.cap : Int) = some t2)
    (hcu : Row H 3 t1 (cutC cuts)) (hfa : Row H 1 t2 (intC fails)) (hl1 : cuts.length ≤ 1099511627776) (hl2 : fails.length ≤ 1099511627776) :
    ∃ H' a e z, law13_Begun g (f1, f2, f3, ()) H = some ((some (a.c, 0), some (z.w, 0), true, ()), H') ∧ WrAt (fun k => k < H.length) H' z a e (Nd.new cuts fails []) Wr.new ⟨none, 0, 0⟩ ∧ Keep (fun _ => False) H H' ∧ (8 ≤ a.B ∧ a.B ≤ 15 ∧ 4 ≤ a.P ∧ a.P ≤ 11 ∧ 64 ≤ a.S ∧ a.S ≤ 127) := by
  unfold law13_Begun
  obtain ⟨B, P, S, hsh, hB0, hB1, hP0, hP1, hS0, hS1, hok⟩ := shape_nat g
  let gB : Blk := .cells [.int .i64 g.1, .int .i64 g.2.1, .int .i64 g.2.2.1] .exact
  let fB : Blk := .cells [.sl 3 f1, .sl 1 f2, .sl 1 f3] .exact
  let hB : Blk := .cells [.int .i64 (B : Int), .int .i64 (P : Int), .int .i64 (S : Int)] .exact
  let H1 : Heap := H ++ [gB]
  let H2 : Heap := H1 ++ [fB]
  have e1 : H1.length = H.length + 1 := by simp [H1]
  have q1 : H ++ [Blk.cells [.int .i64 g.1, .int .i64 g.2.1, .int .i64 g.2.2.1] .exact] = H1 := rfl
  have q2 : H1 ++ [Blk.cells [.sl 3 f1, .sl 1 f2, .sl 1 f3] .exact] = H2 := rfl
  have g2 : H2[H.length]? = some gB := by rw [app_lt (by omega)]; exact app_last
  have f2' : H2[H1.length]? = some fB := app_last
  have r1 := rd_geo (H := H2) (k := H.length) (g := g) (bk := .exact) g2
  obtain ⟨H3, k1, k2⟩ := geometry_eq g H2
  rw [hsh] at k1
  have f3' := k2.get f2' id
  have w6 : wr (H3 ++ [Blk.cells [.int .i64 0, .int .i64 0, .int .i64 0] .exact]) H3.length 0 [.int .i64 (B : Int), .int .i64 (P : Int), .int .i64 (S : Int)] = some (H3 ++ [hB]) := by
    rw [wr_last (by decide) (by simp)]; rfl
  have r7 := rd_geo (H := H3 ++ [hB]) (k := H3.length) (g := ((B : Int), (P : Int), (S : Int), ())) (bk := .exact) app_last
  have f6 : (H3 ++ [hB])[H1.length]? = some fB := by rw [app_lt (get_lt f3')]; exact f3'
  have b0 : rdSl 3 (H3 ++ [hB]) H1.length 0 = some f1 := rdSl_of f6 rfl
  have b1 : rdSl 1 (H3 ++ [hB]) H1.length 1 = some f2 := rdSl_of f6 rfl
  have k6 : Keep (fun _ => False) H (H3 ++ [hB]) := (((Keep.push _ _ _).trans (Keep.push _ _ _)).trans k2).trans (Keep.push _ _ _)
  have no : ∀ {s : Sl} (b o : Nat), s.p = some (b, o) → ¬ False := fun _ _ _ => id
  obtain ⟨H4, a, n1, n2, n3, nB, nP, nS, n4⟩ := new_yes (B := B) (P := P) (S := S) (f := (t1, t2, ⟨none, 0, 0⟩, ())) (cuts := cuts) (fails := fails) (bad := []) (H3 ++ [hB]) hok (hcu.keep k6 no) (hfa.keep k6 no) (Row.ni _ 1 0) hl1 hl2 (by decide)
  have h4 : H4[H3.length]? = some hB := n3.get app_last id
  have rB4 : rdI .i64 H4 H3.length 0 = some (B : Int) := rdI_of h4 rfl
  have rP4 : rdI .i64 H4 H3.length 1 = some (P : Int) := rdI_of h4 rfl
  obtain ⟨H5, e, l1, l2, l3, lB, lP, l4⟩ := life_new_eq H4 (B := B) (P := P) (by omega) (by omega)
  have rB5 : rdI .i64 H5 H3.length 0 = some (B : Int) := rdI_of (l3.get h4 id) rfl
  have hmk := mkS_of (H := H5) (bytes := 8) (zero := [.int .i64 0]) (n := B) (by omega) (by omega)
  have hn5 := (n2.keep l3 fun _ _ => id).push (.cells (arrC B fun _ => [.int .i64 0]) .exact)
  have hl5 := l2.keep (Keep.push (fun _ => False) H5 (.cells (arrC B fun _ => [.int .i64 0]) .exact)) fun _ _ => id
  have hrow : Row (H5 ++ [.cells (arrC B fun _ => [.int .i64 0]) .exact]) 1 ⟨some (H5.length, 0), B, B⟩ (arrC e.B fun _ => [.int .i64 0]) := by
    rw [lB]; exact ⟨row_last (by rw [arrC_length (es := 1) (f := fun _ => [C.int .i64 0]) (fun _ => rfl)]), fun hh => by cases hh⟩
  have kk := k6.len
  have hown : ∀ k, a.own k → k < H4.length := fun k hk => n2.own_lt hk
  obtain ⟨H6, z, w1, w2, w3⟩ := write_new_eq (N := fun k => k < H.length) hn5 hl5 hrow ⟨by omega, by omega⟩ (by omega) (fun k hk hf => by have := hown k hk; have := l4 k hf; omega) (fun k hk hm => by
    rcases hk with hk | hk
    · have := n4 k hk; omega
    · have := l4 k hk; have := n3.len; omega) (fun k hk => by have := n3.len; have := l3.len; simp; omega)
  refine ⟨H6, a, e, z, ?_, w2, ((((k6.trans n3).trans l3).trans (Keep.push _ _ _)).trans w3), by omega⟩
  have eg : (g.1, g.2.1, g.2.2.1, ()) = g := rfl
  simp only [q1, q2, r1, bind_some, eg, k1, w6, r7, b0, b1, s1, s2, n1, rB4, rP4, l1, rB5, hmk, w1, decide_true, cond_t]
end Ev
