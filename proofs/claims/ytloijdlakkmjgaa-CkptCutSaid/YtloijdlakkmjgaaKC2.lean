/- SNandG SNandH SNandN SCame Up -/
import Derived.Test.YtloijdlakkmjgaaKC1
/- The chip: Program, Read, Erase, Mark and the like. -/
namespace Ev
open Go (IntKind)

section
variable {H : Heap} {a : NdA} {s : Nd}

/-- Which inputs are in. -/
theorem in_ok {b p : Nat} (ho : s.off = false) (hb : b < a.B) (hp : p < a.P) : s.inE a b p = 0 := by
  unfold Nd.inE
  rw [ho, if_neg (by simp), if_neg (by omega)]
theorem in_no {b p : Int} (h : s.inE a b p ≠ 0) : (!decide (s.inE a b p = 0)) = true := by rw [decide_eq_false h]; rfl

theorem prog_refused (h : NdAt H a s) {b p : Int} (he : s.inE a b p ≠ 0) (d sp : Bytes) : nand_Chip_Program (some (a.c, 0)) b p d sp H = some ((s.inE a b p, ()), H) := by
  unfold nand_Chip_Program
  simp only [nand_in h, bind_some, in_no he, cond_t]
theorem prog_len (h : NdAt H a s) {b p : Int} (he : s.inE a b p = 0) {d sp : Bytes} (hl : d.length ≠ a.S ∨ sp.length ≠ 32) : nand_Chip_Program (some (a.c, 0)) b p d sp H = some ((1, ()), H) := by
  unfold nand_Chip_Program
  simp only [nand_in h, bind_some, he, decide_true, Bool.not_true, cond_f, Nat.zero_add, h.rS]
  by_cases h1 : d.length = a.S
  · have h2 : sp.length ≠ 32 := hl.resolve_left (fun x => x h1)
    rw [decide_eq_true (by omega), decide_eq_false (by omega)]; rfl
  · rw [decide_eq_false (by omega)]; rfl

theorem prog_loop (h : NdAt H a s) {b p : Nat} (hb : b < a.B) (hp : p < a.P) :
    loopW (nand_Chip_Program.s1 (some (a.c, 0)) (a.bb, b * 4)) ((p : Int), ()) H = some (if s.used a b p = true then .inr (52, ()) else .inl (), H) := by
  have hsz := h.sz
  obtain ⟨y, G, l1, rfl, l2⟩ := loopW_run (step := nand_Chip_Program.s1 (some (a.c, 0)) (a.bb, b * 4)) (fun t G => G = H ∧ ∃ i : Nat, p ≤ i ∧ i ≤ a.P ∧ t.1 = (i : Int) ∧ ∀ q, p ≤ q → q < i → s.pages b q = [])
    (fun y G => G = H ∧ y = if s.used a b p = true then .inr (52, ()) else .inl ()) (fun t _ => a.P - t.1.toNat)
    (by
      rintro ⟨j, u⟩ G ⟨rfl, i, hpi, hi, hj, hno⟩
      have hj : j = (i : Int) := hj
      subst hj
      unfold nand_Chip_Program.s1
      simp only [bind_some, Nat.zero_add, h.rP]
      by_cases hlt : i < a.P
      · simp only [decide_eq_true (show (i : Int) < (a.P : Int) by omega), cond_t, h.rpb hb, bind_some, NdAt.atp b i hlt, h.rpage hb hlt]
        by_cases he : s.pages b i = []
        · simp only [decide_eq_true he, Bool.not_true, cond_f, Round, wrap_succ (show i < 9223372036854775807 by omega)]
          refine ⟨⟨trivial, i + 1, by omega, by omega, rfl, ?_⟩, by simp; omega⟩
          intro q h1 h2
          by_cases hq : q = i
          · rw [hq]; exact he
          · exact hno q h1 (by omega)
        · have hu : s.used a b p = true := by
            unfold Nd.used
            rw [List.any_eq_true]
            exact ⟨i, List.mem_range.2 hlt, by simp [hpi, he]⟩
          simp only [decide_eq_false he, Bool.not_false, cond_t, Round, hu, if_true]
          exact ⟨trivial, trivial⟩
      · have hu : s.used a b p = false := by
          unfold Nd.used
          rw [List.any_eq_false]
          intro q hq
          have hq := List.mem_range.1 hq
          by_cases h1 : p ≤ q
          · simp [hno q h1 (by omega)]
          · simp [h1]
        simp only [decide_eq_false (show ¬ (i : Int) < (a.P : Int) by omega), cond_f, Round, hu]
        exact ⟨trivial, by simp⟩) ((p : Int), ()) H ⟨rfl, p, Nat.le_refl _, by omega, rfl, fun q h1 h2 => by omega⟩
  rw [l1, l2]

theorem cut_get {G : Heap} {x : Cut} : G.length < (G ++ [cutB x]).length := by simp

theorem nand_program (h : NdAt H a s) (hd : 0 ≤ s.did ∧ s.did < 4611686018427387904) (hcu : ∀ x ∈ s.cuts, 0 ≤ x.2.2.1 ∧ x.2.2.1 < 256) {b p : Nat} (ho : s.off = false) (hb : b < a.B) (hp : p < a.P) {d sp : Bytes} (hdl : d.length = a.S) (hsl : sp.length = 32) (hu : s.used a b p = false) :
    ∃ H', nand_Chip_Program (some (a.c, 0)) (b : Int) (p : Int) d sp H = some (((s.program a b p (d ++ sp)).1, ()), H') ∧ NdAt H' a (s.program a b p (d ++ sp)).2 ∧ Keep a.fp H H' := by
  have hsz := h.sz
  obtain ⟨H1, q1, q2, q3⟩ := nand_act h hd
  have q4 := q2.push (cutB (s.cutNow.getD cut0))
  have k4 : Keep a.fp H (H1 ++ [cutB (s.cutNow.getD cut0)]) := q3.trans (Keep.push _ _ _)
  have hcat : catS d sp = some (d ++ sp) := cat_of (by omega)
  have htl : (d ++ sp).length ≤ 35184372088832 := by simp; omega
  have r1 := rd_cut (x := s.cutNow.getD cut0) (app_last (H := H1))
  have rde := q4.rdead hb
  unfold nand_Chip_Program Nd.program
  simp only [nand_in h, in_ok ho hb hp, bind_some, decide_true, Bool.not_true, cond_f, Nat.zero_add, h.rS, hdl, hsl, h.rbb, NdAt.atb b hb, prog_loop h hb hp, hu, Bool.false_eq_true, if_false, sum0, q1, wr_cut, r1, hcat]
  have e32 : decide (((32 : Nat) : Int) = 32) = true := rfl
  rw [e32]
  simp only [Bool.not_true, cond_f]
  cases hc : s.cutNow with
  | some x =>
    have hx : x ∈ s.cuts := List.mem_of_find?_eq_some hc
    rw [hc] at q4 k4
    simp only [Option.getD_some] at q4 k4
    obtain ⟨H2, w1, w2, w3⟩ := nand_lay q4 hb hp (tornB x (d ++ sp))
    have et : nand_torn (x.1, x.2.1, x.2.2.1, ()) (d ++ sp) = some (tornB x (d ++ sp), ()) := torn_eq x _ (hcu x hx) htl
    simp only [Option.isSome_some, cond_t, Option.getD_some, et, bind_some, w1]
    exact ⟨H2, rfl, w2, k4.trans w3⟩
  | none =>
    rw [hc] at q4 k4 rde
    simp only [Option.getD_none] at q4 k4 rde
    simp only [Option.isSome_none, cond_f, Option.getD_none, rde, bind_some]
    have hf := nand_fail q4
    have hfn : decide (s.acted.did ∈ s.acted.fails) = s.failNow := rfl
    rw [hfn] at hf
    have hda : s.acted.dead b = s.dead b := rfl
    have e1 : (cond (s.acted.dead b) (some ((true, ()), H1 ++ [cutB cut0])) (nand_Chip_fail (some (a.c, 0)) (H1 ++ [cutB cut0]) |>.bind fun (r24 : ((Bool × Unit) × Heap)) => some ((r24.1.1, ()), r24.2)) : Option ((Bool × Unit) × Heap)) = some ((s.dead b || s.failNow, ()), H1 ++ [cutB cut0]) := by
      rw [hf, hda]
      cases s.dead b <;> rfl
    rw [e1, bind_some]
    by_cases hdf : s.dead b = true ∨ s.failNow = true
    · have e2 : (s.dead b || s.failNow) = true := by simpa using hdf
      obtain ⟨H2, w1, w2, w3⟩ := q4.wdead hb true
      have et : nand_torn (0, 0, 0, ()) (d ++ sp) = some (List.replicate (d ++ sp).length 0, ()) := by
        rw [show nand_torn (0, 0, 0, ()) (d ++ sp) = some (tornB cut0 (d ++ sp), ()) from torn_eq cut0 (d ++ sp) (by decide) htl]; simp [tornB, cut0]
      obtain ⟨H3, v1, v2, v3⟩ := nand_lay w2 hb hp (List.replicate (d ++ sp).length 0)
      simp only [e2, cond_t, w1, bind_some, et, v1, if_pos hdf]
      exact ⟨H3, rfl, v2, (k4.trans w3).trans v3⟩
    · have e2 : (s.dead b || s.failNow) = false := by
        cases h1 : s.dead b <;> cases h2 : s.failNow <;> simp_all
      obtain ⟨H3, v1, v2, v3⟩ := nand_lay q4 hb hp (d ++ sp)
      simp only [e2, cond_f, bind_some, v1, if_neg hdf]
      exact ⟨H3, rfl, v2, k4.trans v3⟩
theorem prog_used (h : NdAt H a s) {b p : Nat} (ho : s.off = false) (hb : b < a.B) (hp : p < a.P) {d sp : Bytes} (hdl : d.length = a.S) (hsl : sp.length = 32) (hu : s.used a b p = true) :
    nand_Chip_Program (some (a.c, 0)) (b : Int) (p : Int) d sp H = some ((52, ()), H) := by
  unfold nand_Chip_Program
  simp only [nand_in h, in_ok ho hb hp, bind_some, decide_true, Bool.not_true, cond_f, Nat.zero_add, h.rS, hdl, hsl, h.rbb, NdAt.atb b hb, prog_loop h hb hp, hu, if_true, sum1]
  rfl

/-! Read. -/
theorem read_refused (h : NdAt H a s) {b p : Int} (he : s.inE a b p ≠ 0) : nand_Chip_Read (some (a.c, 0)) b p H = some (([], [], s.inE a b p, ()), H) := by
  unfold nand_Chip_Read
  simp only [nand_in h, bind_some, in_no he, cond_t]
theorem nand_read (h : NdAt H a s) {b p : Nat} (ho : s.off = false) (hb : b < a.B) (hp : p < a.P) (hl : s.pages b p = [] ∨ (s.pages b p).length = a.S + 32) :
    ∃ H', nand_Chip_Read (some (a.c, 0)) (b : Int) (p : Int) H = some (((s.read a b p).take a.S, (s.read a b p).drop a.S, 0, ()), H') ∧ NdAt H' a s ∧ Keep (fun _ => False) H H' := by
  unfold nand_Chip_Read
  have hrl : (s.read a b p).length = a.S + 32 := by
    unfold Nd.read
    split
    · simp [fullP]
    · rename_i hne; exact hl.resolve_left hne
  have e1 : ∃ H', (cond (decide (s.pages b p = [])) ((nand_Chip_full (some (a.c, 0)) H).bind fun (r8 : ((Bytes × Unit) × Heap)) => some ((r8.1.1, ()), r8.2)) (some ((s.pages b p, ()), H)) : Option ((Bytes × Unit) × Heap)) = some ((s.read a b p, ()), H') ∧ NdAt H' a s ∧ Keep (fun _ => False) H H' := by
    unfold Nd.read
    by_cases he : s.pages b p = []
    · rw [decide_eq_true he, cond_t, nand_full h, if_pos he]
      exact ⟨_, rfl, h.push _, Keep.push _ _ _⟩
    · rw [decide_eq_false he, cond_f, if_neg he]
      exact ⟨_, rfl, h, Keep.refl _ _⟩
  obtain ⟨H', g1, g2, g3⟩ := e1
  refine ⟨H', ?_, g2, g3⟩
  have s1 : subS (s.read a b p) 0 (a.S : Int) = some ((s.read a b p).take a.S) := by
    rw [show (0 : Int) = ((0 : Nat) : Int) from rfl, sub_of (Nat.zero_le _) (by omega)]; rfl
  have s2 : subS (s.read a b p) (a.S : Int) ((s.read a b p).length : Int) = some ((s.read a b p).drop a.S) := by
    rw [sub_of (by omega) (Nat.le_refl _), List.take_length]
  simp only [nand_in h, in_ok ho hb hp, bind_some, decide_true, Bool.not_true, cond_f, Nat.zero_add, h.rbb, NdAt.atb b hb, h.rpb hb, NdAt.atp b p hp, h.rpage hb hp, g1, g2.rS, s1, s2]

theorem nand_power (h : NdAt H a s) : ∃ H', nand_Chip_Power (some (a.c, 0)) H = some ((), H') ∧ NdAt H' a { s with off := false } ∧ Keep a.fp H H' := by
  obtain ⟨H', w1, w2, w3⟩ := h.woff false
  refine ⟨H', ?_, w2, w3⟩
  unfold nand_Chip_Power
  simp only [Option.isNone_some, Bool.not_false, cond_t, bind_some, Nat.zero_add, w1]
theorem marked_refused (h : NdAt H a s) {b : Int} (he : s.inE a b 0 ≠ 0) : nand_Chip_Marked (some (a.c, 0)) b H = some ((false, s.inE a b 0, ()), H) := by
  unfold nand_Chip_Marked
  simp only [nand_in h, bind_some, in_no he, cond_t]
theorem nand_marked (h : NdAt H a s) {b : Nat} (ho : s.off = false) (hb : b < a.B) (hP : 0 < a.P) : nand_Chip_Marked (some (a.c, 0)) (b : Int) H = some ((s.mark b, 0, ()), H) := by
  unfold nand_Chip_Marked
  have hi : s.inE a b 0 = 0 := in_ok (p := 0) ho hb hP
  simp only [nand_in h, hi, bind_some, decide_true, Bool.not_true, cond_f, Nat.zero_add, h.rbb, NdAt.atb b hb, h.rmark hb]

/-! Erase. -/
theorem erase_refused (h : NdAt H a s) {b : Int} (he : s.inE a b 0 ≠ 0) : nand_Chip_Erase (some (a.c, 0)) b H = some ((s.inE a b 0, ()), H) := by
  unfold nand_Chip_Erase
  simp only [nand_in h, bind_some, in_no he, cond_t]

theorem clear_zero (s : Nd) (b : Nat) : s.clear b 0 = s := by
  cases s; simp [Nd.clear]
theorem clear_succ (s : Nd) (b n : Nat) : { s.clear b n with pages := upd2 (s.clear b n).pages b n [] } = s.clear b (n + 1) := by
  have e : upd2 (fun k q => if k = b ∧ q < n then [] else s.pages k q) b n [] = fun k q => if k = b ∧ q < n + 1 then [] else s.pages k q := by
   funext k q
   simp only [upd2]
   by_cases h1 : k = b
   · by_cases h2 : q = n
     · rw [if_pos ⟨h1, h2⟩, if_pos ⟨h1, by omega⟩]
     · rw [if_neg (fun h => h2 h.2)]
       by_cases h3 : q < n
       · rw [if_pos ⟨h1, h3⟩, if_pos ⟨h1, by omega⟩]
       · rw [if_neg (fun h => h3 h.2), if_neg (fun h => by omega)]
   · rw [if_neg (fun h => h1 h.1), if_neg (fun h => h1 h.1), if_neg (fun h => h1 h.1)]
  unfold Nd.clear
  dsimp only
  rw [e]

theorem erase_loop (h : NdAt H a s) {b n : Nat} (hb : b < a.B) (hn : n ≤ a.P) {v10 v12 : Int} (he : (if v12 < (if 0 > v10 then 0 else v10) then v12 else (if 0 > v10 then 0 else v10)) = (n : Int)) :
    ∃ H', loopW (nand_Chip_Erase.s1 (a.bb, b * 4) v10 v12) (0, ()) H = some ((), H') ∧ NdAt H' a (s.clear b n) ∧ Keep a.fp H H' := by
  have hsz := h.sz
  obtain ⟨y, G, l1, l2⟩ := loopW_run (step := nand_Chip_Erase.s1 (a.bb, b * 4) v10 v12) (fun t G => ∃ i : Nat, i ≤ n ∧ t.1 = (i : Int) ∧ NdAt G a (s.clear b i) ∧ Keep a.fp H G) (fun _ G => NdAt G a (s.clear b n) ∧ Keep a.fp H G) (fun t _ => n - t.1.toNat)
    (by
      rintro ⟨j, u⟩ G ⟨i, hi, hj, hG, hK⟩
      have hj : j = (i : Int) := hj
      subst hj
      unfold nand_Chip_Erase.s1
      simp only [he]
      by_cases hlt : i < n
      · obtain ⟨G', w1, w2, w3⟩ := hG.wpage hb (show i < a.P by omega) []
        rw [clear_succ] at w2
        simp only [decide_eq_true (show (i : Int) < (n : Int) by omega), cond_t, hG.rpb hb, bind_some, NdAt.atp b i (show i < a.P by omega), w1, Round, wrap_succ (show i < 9223372036854775807 by omega)]
        exact ⟨⟨i + 1, hlt, rfl, w2, hK.trans w3⟩, by simp; omega⟩
      · have : i = n := by omega
        subst this
        simp only [decide_eq_false (show ¬ (i : Int) < (i : Int) by omega), cond_f, Round]
        exact ⟨hG, hK⟩) (0, ()) H ⟨0, Nat.zero_le _, rfl, by rw [clear_zero]; exact h, Keep.refl _ _⟩
  exact ⟨G, l1, l2⟩

theorem rep_str (n : Nat) : rep n [C.str []] = arrC n (fun _ => [C.str []]) := by
  unfold rep
  induction n with
  | zero => rfl
  | succ n ih =>
    rw [arrC, ← ih, List.replicate_succ']
    simp
theorem setL_all : ∀ (new old pre : List C), new.length = old.length → setL (pre ++ old) pre.length new = pre ++ new
  | [], [], pre, _ => by simp [setL]
  | x :: new, y :: old, pre, h => by
    rw [setL, List.set_append_right _ _ (Nat.le_refl _), Nat.sub_self, List.set_cons_zero]
    have := setL_all new old (pre ++ [x]) (by simpa using h)
    simp only [List.length_append, List.length_singleton, List.append_assoc, List.singleton_append] at this
    exact this
  | [], _ :: _, _, h => by simp at h
  | _ :: _, [], _, h => by simp at h
/-- All pages of a block at once. -/
theorem nand_clr (h : NdAt H a s) {b : Nat} (hb : b < a.B) : ∃ H', clrS H [.str []] ⟨some (a.pb b, 0), a.P, a.P⟩ = some H' ∧ NdAt H' a (s.clear b a.P) ∧ Keep a.fp H H' := by
  have hk : Keep (fun k => k = a.pb b) H (H.set (a.pb b) (.cells (arrC a.P fun _ => [C.str []]) .exact)) := Keep.set _ _ _ rfl
  have hn : NdAt (H.set (a.pb b) (.cells (arrC a.P fun _ => [C.str []]) .exact)) a (s.clear b a.P) := by
    refine { cell := hk.get h.cell (h.cp b hb), blks := hk.get h.blks (h.bp b hb), pgs := fun j hj => ?_, cuts := h.cuts.keep hk fun k o hp e => h.csn k o hp (.inr (.inr ⟨b, hb, e⟩)), fails := h.fails.keep hk fun k o hp e => h.fsn k o hp (.inr (.inr ⟨b, hb, e⟩)), cb := h.cb, cp := h.cp, bp := h.bp, pp := h.pp, csn := h.csn, fsn := h.fsn, sz := h.sz, ln := h.ln }
    by_cases e : j = b
    · subst e
      rw [set_get (get_lt (h.pgs j hj))]
      congr 2
      refine arrC_congr fun k hk => ?_
      simp [NdA.pg, Nd.clear, hk]
    · rw [hk.get (h.pgs j hj) (fun e2 => e (h.pp j b hj hb e2))]
      congr 2
      refine arrC_congr fun k _ => ?_
      simp [NdA.pg, Nd.clear, e]
  refine ⟨H.set (a.pb b) (.cells (arrC a.P fun _ => [C.str []]) .exact), ?_, hn, hk.mono fun k e => .inr (.inr ⟨b, hb, e⟩)⟩
  unfold clrS
  by_cases h0 : a.P = 0
  · simp only [h0, decide_true, cond_t]
    have hg := h.pgs b hb
    rw [h0] at hg
    have : H.set (a.pb b) (.cells (arrC 0 fun _ => [C.str []]) .exact) = H := by
      apply List.ext_getElem?
      intro j
      by_cases e : a.pb b = j
      · subst e; rw [set_get (get_lt hg), hg]; rfl
      · rw [set_get' e]
    rw [this]
  · rw [decide_eq_false h0, cond_f]
    simp only [rep_str]
    rw [wr_of (h.pgs b hb) (by decide) (by rw [arrC_length (fun _ => rfl) (es := 1), arrC_length (pg_len s b)]; omega)]
    have := setL_all (arrC a.P fun _ => [C.str []]) (arrC a.P (NdA.pg s b)) [] (by rw [arrC_length (fun _ => rfl) (es := 1), arrC_length (pg_len s b)])
    simp only [List.nil_append, List.length_nil] at this
    rw [this]

theorem nand_erase (h : NdAt H a s) (hd : 0 ≤ s.did ∧ s.did < 4611686018427387904) (hcu : ∀ x ∈ s.cuts, 0 ≤ x.2.2.1 ∧ x.2.2.1 < 256) {b : Nat} (ho : s.off = false) (hb : b < a.B) (hP : 0 < a.P) (hw : 0 ≤ s.worn b ∧ s.worn b < 4611686018427387904) :
    ∃ H', nand_Chip_Erase (some (a.c, 0)) (b : Int) H = some (((s.erase a b).1, ()), H') ∧ NdAt H' a (s.erase a b).2 ∧ Keep a.fp H H' := by
  have hsz := h.sz
  obtain ⟨H1, q1, q2, q3⟩ := nand_act h hd
  have q4 := q2.push (cutB (s.cutNow.getD cut0))
  have k4 : Keep a.fp H (H1 ++ [cutB (s.cutNow.getD cut0)]) := q3.trans (Keep.push _ _ _)
  have hi : s.inE a b 0 = 0 := in_ok (p := 0) ho hb hP
  have hwa : s.acted.worn b = s.worn b := rfl
  obtain ⟨H2, w1, w2, w3⟩ := q4.wworn hb (s.worn b + 1)
  have rw4 := q4.rworn hb
  rw [hwa] at rw4
  have ew : IntKind.wrap .i64 (s.worn b + 1) = s.worn b + 1 := wrap_i64 (by omega) (by omega)
  have hlk : H2[H1.length]? = some (cutB (s.cutNow.getD cut0)) := w3.get app_last (by
    intro hf
    have := q2.own_lt (k := H1.length) (.inl hf)
    omega)
  unfold nand_Chip_Erase Nd.erase
  simp only [nand_in h, hi, bind_some, decide_true, Bool.not_true, cond_f, Nat.zero_add, h.rbb, NdAt.atb b hb, q1, wr_cut, rw4, ew, w1]
  have es1 : ({ s.acted with worn := upd s.acted.worn b (s.worn b + 1) } : Nd) = { s.acted with worn := upd s.worn b (s.worn b + 1) } := rfl
  rw [es1] at w2
  generalize hs1 : ({ s.acted with worn := upd s.worn b (s.worn b + 1) } : Nd) = s1 at w2
  have hda : s1.dead b = s.dead b := by rw [← hs1]; rfl
  have hfn : decide (s1.did ∈ s1.fails) = s.failNow := by rw [← hs1]; rfl
  cases hc : s.cutNow with
  | some x =>
    have hx : x ∈ s.cuts := List.mem_of_find?_eq_some hc
    obtain ⟨at', keep, fill, u⟩ := x
    have hfi := hcu _ hx
    simp only at hfi
    rw [hc] at hlk
    simp only [Option.getD_some] at hlk
    have rk : rdI .i64 H2 H1.length 1 = some keep := rdI_of hlk rfl
    have rP := w2.rP
    have hm : (if (a.P : Int) < (if 0 > keep then 0 else keep) then (a.P : Int) else (if 0 > keep then 0 else keep)) = ((min keep.toNat a.P : Nat) : Int) := by
      by_cases h0 : 0 > keep
      · rw [if_pos h0, if_neg (by omega)]; omega
      · rw [if_neg h0]
        by_cases h1 : (a.P : Int) < keep
        · rw [if_pos h1]; omega
        · rw [if_neg h1]; omega
    obtain ⟨H3, l1, l2, l3⟩ := erase_loop w2 hb (n := min keep.toNat a.P) (by omega) hm
    have hlk3 : H3[H1.length]? = some (cutB (at', keep, fill, u)) := l3.get hlk (by
      intro hf
      have := q2.own_lt (k := H1.length) (.inl hf)
      omega)
    have rk3 : rdI .i64 H3 H1.length 1 = some keep := rdI_of hlk3 rfl
    have rf3 : rdI .u8 H3 H1.length 2 = some fill := rdI_of hlk3 rfl
    simp only [Option.isSome_some, cond_t, rk, bind_some, rP, l1, rk3, l2.rP]
    by_cases hk0 : 0 ≤ keep
    · by_cases hk1 : keep < (a.P : Int)
      · have hfu := nand_full l2
        have l4 := l2.push (.cells [.int .u8 255] .exact)
        have rf4 : rdI .u8 (H3 ++ [.cells [.int .u8 255] .exact]) H1.length 2 = some fill := rdI_of (by rw [app_lt (get_lt hlk3)]; exact hlk3) rfl
        have et : nand_torn (0, 0, fill, ()) (fullP a) = some (List.replicate (a.S + 32) (UInt8.ofNat fill.toNat), ()) := by
          rw [torn_eq (0, 0, fill, ()) (fullP a) hfi (by simp [fullP]; omega)]; simp [tornB, fullP]
        obtain ⟨H4, v1, v2, v3⟩ := nand_lay l4 hb (p := keep.toNat) (by omega) (List.replicate (a.S + 32) (UInt8.ofNat fill.toNat))
        have ek : ((keep.toNat : Nat) : Int) = keep := Int.toNat_of_nonneg hk0
        rw [ek] at v1
        simp only [decide_eq_true hk0, cond_t, decide_eq_true hk1, bind_some, rf3, hfu, et, rf4, if_true, v1]
        refine ⟨H4, rfl, ?_, ((((k4.trans (by rw [hc]; simp only [Option.getD_some]; exact Keep.refl _ _)).trans (by rw [hc] at w3; simpa using w3)).trans l3).trans (Keep.push _ _ _)).trans v3⟩
        rw [if_pos ⟨hk0, hk1⟩]; exact v2
      · simp only [decide_eq_true hk0, cond_t, decide_eq_false hk1, bind_some, cond_f]
        refine ⟨H3, rfl, ?_, (k4.trans w3).trans l3⟩
        rw [if_neg (fun h => hk1 h.2)]; exact l2
    · simp only [decide_eq_false hk0, bind_some, cond_f]
      refine ⟨H3, rfl, ?_, (k4.trans w3).trans l3⟩
      rw [if_neg (fun h => hk0 h.1)]; exact l2
  | none =>
    have hf := nand_fail w2
    rw [hfn] at hf
    have rde := w2.rdead hb
    rw [hda] at rde
    simp only [Option.isSome_none, cond_f, rde, bind_some]
    have e1 : (cond (s.dead b) (some ((true, ()), H2)) (nand_Chip_fail (some (a.c, 0)) H2 |>.bind fun (r24 : ((Bool × Unit) × Heap)) => some ((r24.1.1, ()), r24.2)) : Option ((Bool × Unit) × Heap)) = some ((s.dead b || s.failNow, ()), H2) := by
      rw [hf]
      cases s.dead b <;> rfl
    rw [e1, bind_some]
    by_cases hdf : s.dead b = true ∨ s.failNow = true
    · have e2 : (s.dead b || s.failNow) = true := by simpa using hdf
      obtain ⟨H3, v1, v2, v3⟩ := w2.wdead hb true
      simp only [e2, cond_t, v1, bind_some, if_pos hdf]
      refine ⟨H3, rfl, ?_, (k4.trans w3).trans v3⟩
      have : upd s1.dead b true = upd s.dead b true := by rw [← hs1]; rfl
      rw [this, ← hs1] at v2
      exact v2
    · have e2 : (s.dead b || s.failNow) = false := by
        cases h1 : s.dead b <;> cases h2 : s.failNow <;> simp_all
      obtain ⟨H3, v1, v2, v3⟩ := nand_clr w2 hb
      simp only [e2, cond_f, w2.rpb hb, bind_some, v1, if_neg hdf]
      refine ⟨H3, rfl, ?_, (k4.trans w3).trans v3⟩
      exact v2

/-! Mark. -/
theorem mark_refused (h : NdAt H a s) {b : Int} (he : s.inE a b 0 ≠ 0) : nand_Chip_Mark (some (a.c, 0)) b H = some ((s.inE a b 0, ()), H) := by
  unfold nand_Chip_Mark
  simp only [nand_in h, bind_some, in_no he, cond_t]
theorem nand_mark (h : NdAt H a s) (hd : 0 ≤ s.did ∧ s.did < 4611686018427387904) {b : Nat} (ho : s.off = false) (hb : b < a.B) (hP : 0 < a.P) :
    ∃ H', nand_Chip_Mark (some (a.c, 0)) (b : Int) H = some (((s.domark b).1, ()), H') ∧ NdAt H' a (s.domark b).2 ∧ Keep a.fp H H' := by
  obtain ⟨H1, q1, q2, q3⟩ := nand_act h hd
  have q4 := q2.push (cutB (s.cutNow.getD cut0))
  have k4 : Keep a.fp H (H1 ++ [cutB (s.cutNow.getD cut0)]) := q3.trans (Keep.push _ _ _)
  have hi : s.inE a b 0 = 0 := in_ok (p := 0) ho hb hP
  have hma : upd s.acted.mark b true = upd s.mark b true := rfl
  obtain ⟨H2, w1, w2, w3⟩ := q4.wmark hb true
  rw [hma] at w2
  have r1 : rdI .i64 (H1 ++ [cutB (s.cutNow.getD cut0)]) H1.length 1 = some (s.cutNow.getD cut0).2.1 := rdI_of app_last rfl
  unfold nand_Chip_Mark Nd.domark
  simp only [nand_in h, hi, bind_some, decide_true, Bool.not_true, cond_f, Nat.zero_add, q1, wr_cut, r1]
  cases hc : s.cutNow with
  | some x =>
    rw [hc] at q4 k4 w1 w3
    simp only [Option.getD_some] at q4 k4 w1 w3
    simp only [Option.isSome_some, Bool.not_true, cond_f, cond_t, Option.getD_some, bind_some]
    by_cases hk : 0 < x.2.1
    · simp only [decide_eq_true hk, cond_t, q4.rbb, bind_some, NdAt.atb b hb, w1, if_pos hk]
      exact ⟨H2, rfl, w2, k4.trans w3⟩
    · simp only [decide_eq_false hk, cond_f, if_neg hk]
      exact ⟨_, rfl, q4, k4⟩
  | none =>
    rw [hc] at q4 k4 w1 w3
    simp only [Option.getD_none] at q4 k4 w1 w3
    simp only [Option.isSome_none, Bool.not_false, cond_f, cond_t, Option.getD_none, bind_some, q4.rbb, NdAt.atb b hb, w1]
    exact ⟨H2, rfl, w2, k4.trans w3⟩
end
end Ev

/- The chip: New, Arm, Dead, Worn, Geometry, and no chip. -/
namespace Ev
open Go (IntKind)

abbrev Geo := Int × Int × Int × Unit
def geoOK (g : Geo) : Bool := decide (8 ≤ g.1 ∧ g.1 ≤ 32 ∧ 4 ≤ g.2.1 ∧ g.2.1 ≤ 16 ∧ 64 ≤ g.2.2.1 ∧ g.2.2.1 ≤ 256)
theorem nand_Check_eq (g : Geo) : nand_Check g = some (geoOK g, ()) := by
  obtain ⟨x, y, z, u⟩ := g
  have r0 : ∀ a b c, rdI .i64 [Blk.cells [.int .i64 a, .int .i64 b, .int .i64 c] .exact] 0 0 = some a := fun _ _ _ => rfl
  have r1 : ∀ a b c, rdI .i64 [Blk.cells [.int .i64 a, .int .i64 b, .int .i64 c] .exact] 0 1 = some b := fun _ _ _ => rfl
  have r2 : ∀ a b c, rdI .i64 [Blk.cells [.int .i64 a, .int .i64 b, .int .i64 c] .exact] 0 2 = some c := fun _ _ _ => rfl
  unfold nand_Check nand_Check.on geoOK
  simp only [List.nil_append, List.length_nil, r0, r1, r2, bind_some]
  by_cases h1 : 8 ≤ x
  · by_cases h2 : x ≤ 32
    · by_cases h3 : 4 ≤ y
      · by_cases h4 : y ≤ 16
        · by_cases h5 : 64 ≤ z
          · by_cases h6 : z ≤ 256 <;> simp [h1, h2, h3, h4, h5, h6]
          · simp [h1, h2, h3, h4, h5]
        · simp [h1, h2, h3, h4]
      · simp [h1, h2, h3]
    · simp [h1, h2]
  · simp [h1]

section
variable {H : Heap} {a : NdA} {s : Nd}

theorem rd_geo {H : Heap} {k : Nat} {g : Geo} {bk : BK} (h : H[k]? = some (.cells [.int .i64 g.1, .int .i64 g.2.1, .int .i64 g.2.2.1] bk)) : @Eq (Option Geo) (rd H (.agg [.int .i64, .int .i64, .int .i64]) k 0) (some g) := by
  refine rd_agg_of h (by simp) ?_
  simp [Tup.un, CT.un]
  rfl
theorem nand_geometry (h : NdAt H a s) : ∃ H', nand_Chip_Geometry (some (a.c, 0)) H = some ((((a.B : Int), (a.P : Int), (a.S : Int), ()), ()), H') ∧ NdAt H' a s ∧ Keep (fun _ => False) H H' := by
  unfold nand_Chip_Geometry
  have h1 := h.push (Blk.cells [.int .i64 0, .int .i64 0, .int .i64 0] .exact)
  have w1 : wr (H ++ [Blk.cells [.int .i64 0, .int .i64 0, .int .i64 0] .exact]) H.length 0 [.int .i64 (a.B : Int), .int .i64 (a.P : Int), .int .i64 (a.S : Int)] = some (H ++ [Blk.cells [.int .i64 (a.B : Int), .int .i64 (a.P : Int), .int .i64 (a.S : Int)] .exact]) := by
    rw [wr_last (by decide) (by simp)]; rfl
  refine ⟨H ++ [Blk.cells [.int .i64 (a.B : Int), .int .i64 (a.P : Int), .int .i64 (a.S : Int)] .exact], ?_, h.push _, Keep.push _ _ _⟩
  simp only [Option.isNone_some, cond_f, bind_some, h1.rgeo, w1, rd_geo (g := ((a.B : Int), (a.P : Int), (a.S : Int), ())) app_last]
end

/-! No chip. -/
theorem geometry_nil (H : Heap) : ∃ H', nand_Chip_Geometry none H = some (((0, 0, 0, ()), ()), H') ∧ Keep (fun _ => False) H H' := by
  unfold nand_Chip_Geometry
  have w1 : wr (H ++ [Blk.cells [.int .i64 0, .int .i64 0, .int .i64 0] .exact]) H.length 0 [.int .i64 0, .int .i64 0, .int .i64 0] = some (H ++ [Blk.cells [.int .i64 0, .int .i64 0, .int .i64 0] .exact]) := by
    rw [wr_last (by decide) (by decide)]; rfl
  refine ⟨_, ?_, Keep.push _ _ (Blk.cells [.int .i64 0, .int .i64 0, .int .i64 0] .exact)⟩
  simp only [Option.isNone_none, cond_t, w1, bind_some, rd_geo (g := (0, 0, 0, ())) app_last]
end Ev

/- A new chip; faults that come later. -/
namespace Ev
open Go (IntKind)

theorem rep_arr (n : Nat) (z : List C) : rep n z = arrC n (fun _ => z) := by
  unfold rep
  induction n with
  | zero => rfl
  | succ n ih =>
    rw [arrC, ← ih, List.replicate_succ']
    simp
theorem mkS_of {H : Heap} {bytes : Nat} {zero : List C} {n : Nat} (h : n * bytes ≤ 35184372088832) (h2 : n ≤ 35184372088832) : mkS H bytes zero (n : Int) (n : Int) = some (⟨some (H.length, 0), n, n⟩, H ++ [.cells (arrC n fun _ => zero) .exact]) := by
  unfold mkS
  have : decide (0 ≤ (n : Int) ∧ (n : Int) ≤ (n : Int) ∧ (n : Int).toNat * bytes ≤ maxRow ∧ (n : Int).toNat ≤ maxRow) = true := decide_eq_true ⟨by omega, by omega, by unfold maxRow; rw [Int.toNat_natCast]; exact h, by unfold maxRow; omega⟩
  rw [this, cond_t, Int.toNat_natCast, rep_arr]

/-- A chip at its beginning. -/
def Nd.new (cuts : List Cut) (fails bad : List Int) : Nd :=
  { pages := fun _ _ => [], worn := fun _ => 0, dead := fun i => decide ((i : Int) ∈ bad), mark := fun i => decide ((i : Int) ∈ bad), cuts := cuts, fails := fails, did := 0, off := false }

theorem new_no {g : Geo} {f : Sl × Sl × Sl × Unit} (H : Heap) (hg : geoOK g = false) : ∃ H', nand_New g f H = some ((none, 1, ()), H') ∧ Keep (fun _ => False) H H' := by
  unfold nand_New
  refine ⟨_, ?_, (Keep.push _ _ (.cells [.int .i64 g.1, .int .i64 g.2.1, .int .i64 g.2.2.1] .exact)).trans (Keep.push _ _ (.cells [.sl 3 f.1, .sl 1 f.2.1, .sl 1 f.2.2.1] .exact))⟩
  have r := rd_geo (H := (H ++ [Blk.cells [.int .i64 g.1, .int .i64 g.2.1, .int .i64 g.2.2.1] .exact]) ++ [Blk.cells [.sl 3 f.1, .sl 1 f.2.1, .sl 1 f.2.2.1] .exact]) (k := H.length) (g := g) (bk := .exact) (by rw [app_lt (by simp)]; exact app_last)
  have e : nand_Check (g.1, g.2.1, g.2.2.1, ()) = some (geoOK g, ()) := nand_Check_eq g
  simp only [r, bind_some, e, hg, Bool.not_false, cond_t]

def blk0 : List C := [.sl 1 Sl.nil, .int .i64 0, .bool false, .bool false]
def blk1 (L P : Nat) (bad : List Int) (i : Nat) : List C := [.sl 1 ⟨some (L + i, 0), P, P⟩, .int .i64 0, .bool (decide ((i : Int) ∈ bad)), .bool (decide ((i : Int) ∈ bad))]
theorem blkI_len (L P : Nat) (bad : List Int) (n : Nat) : ∀ i, (if i < n then blk1 L P bad i else blk0).length = 4 := by
  intro i; split <;> rfl

set_option maxHeartbeats 1000000 in
theorem new_loop {H H1 : Heap} {r15 : (Sl × Unit) × Heap} {G0 : Heap} {B P S : Nat} {bb : Nat} {cells : List C} {fb : Sl} {bad : List Int} (hB : B ≤ 4294967296) (hP : P ≤ 4294967296)
    (hc : G0[r15.2.length]? = some (.cells cells .exact)) (hc3 : cells[3]? = some (.sl 4 ⟨some (bb, 0), B, B⟩)) (hl : ∃ gcs bk, G0[H.length]? = some (.cells gcs bk) ∧ gcs[1]? = some (.int .i64 (P : Int)))
    (hf : ∃ fcs bk, G0[H1.length]? = some (.cells fcs bk) ∧ fcs[2]? = some (.sl 1 fb)) (hbad : Row G0 1 fb (intC bad)) (hbl : bad.length < 4611686018427387904) (hbb : G0[bb]? = some (.cells (arrC B fun _ => blk0) .exact))
    (n1 : r15.2.length ≠ bb) (n2 : H.length ≠ bb) (n3 : H1.length ≠ bb) (n4 : ∀ k o, fb.p = some (k, o) → k ≠ bb) :
    ∃ G, loopW (nand_New.s1 H H1 r15 ⟨some (bb, 0), B, B⟩) (0, ()) G0 = some ((), G) ∧ G[bb]? = some (.cells (arrC B (blk1 G0.length P bad)) .exact) ∧ (∀ i, i < B → G[G0.length + i]? = some (.cells (arrC P fun _ => [C.str []]) .exact)) ∧ Keep (fun k => k = bb) G0 G := by
  obtain ⟨y, G, l1, l2⟩ := loopW_run (step := nand_New.s1 H H1 r15 ⟨some (bb, 0), B, B⟩) (fun t G => ∃ i : Nat, i ≤ B ∧ t.1 = (i : Int) ∧ G.length = G0.length + i ∧ G[bb]? = some (.cells (arrC B fun j => if j < i then blk1 G0.length P bad j else blk0) .exact) ∧ (∀ j, j < i → G[G0.length + j]? = some (.cells (arrC P fun _ => [C.str []]) .exact)) ∧ Keep (fun k => k = bb) G0 G)
    (fun _ G => G[bb]? = some (.cells (arrC B (blk1 G0.length P bad)) .exact) ∧ (∀ i, i < B → G[G0.length + i]? = some (.cells (arrC P fun _ => [C.str []]) .exact)) ∧ Keep (fun k => k = bb) G0 G) (fun t _ => B - t.1.toNat)
    (by
      rintro ⟨j, u⟩ G ⟨i, hi, hj, hlen, hgb, hpg, hK⟩
      have hj : j = (i : Int) := hj
      subst hj
      have hbb0 := get_lt hbb
      unfold nand_New.s1
      by_cases hlt : i < B
      · have c3 : rdSl 4 G r15.2.length 3 = some ⟨some (bb, 0), B, B⟩ := rdSl_of (hK.get hc n1) hc3
        obtain ⟨gcs, gk, g1, g2⟩ := hl
        obtain ⟨fcs, fk, f1, f2⟩ := hf
        have cP : rdI .i64 G H.length 1 = some (P : Int) := rdI_of (hK.get g1 n2) g2
        have hat : Sl.at 4 ⟨some (bb, 0), B, B⟩ (i : Int) = some (bb, i * 4) := by rw [at_of (by omega) (by omega), Int.toNat_natCast, Nat.zero_add]
        have hbG := get_lt hgb
        -- pages
        let G1 : Heap := G ++ [.cells (arrC P fun _ => [C.str []]) .exact]
        have k1 : Keep (fun k => k = bb) G0 G1 := hK.trans (Keep.push _ _ _)
        have b1 : G1[bb]? = some (.cells (arrC B fun j => if j < i then blk1 G0.length P bad j else blk0) .exact) := by rw [app_lt hbG]; exact hgb
        have al := arrC_length (blkI_len G0.length P bad i) B
        have w1 : wr G1 bb (i * 4) [.sl 1 ⟨some (G0.length + i, 0), P, P⟩] = some (G1.set bb (.cells ((arrC B fun j => if j < i then blk1 G0.length P bad j else blk0).set (i * 4) (.sl 1 ⟨some (G0.length + i, 0), P, P⟩)) .exact)) :=
          wr1_of b1 (by decide) (by rw [al]; have := lt_mul (j := 0) hlt (show 0 < 4 by decide); omega)
        have k2 : Keep (fun k => k = bb) G0 (G1.set bb (.cells ((arrC B fun j => if j < i then blk1 G0.length P bad j else blk0).set (i * 4) (.sl 1 ⟨some (G0.length + i, 0), P, P⟩)) .exact)) := k1.trans (Keep.set _ _ _ rfl)
        have b2 := set_get (x := .cells ((arrC B fun j => if j < i then blk1 G0.length P bad j else blk0).set (i * 4) (.sl 1 ⟨some (G0.length + i, 0), P, P⟩)) .exact) (get_lt b1)
        have p2 : (G1.set bb (.cells ((arrC B fun j => if j < i then blk1 G0.length P bad j else blk0).set (i * 4) (.sl 1 ⟨some (G0.length + i, 0), P, P⟩)) .exact))[G0.length + i]? = some (.cells (arrC P fun _ => [C.str []]) .exact) := by
          rw [set_get' (by omega), ← hlen]; exact app_last
        have p2' : ∀ j, j < i → (G1.set bb (.cells ((arrC B fun j => if j < i then blk1 G0.length P bad j else blk0).set (i * 4) (.sl 1 ⟨some (G0.length + i, 0), P, P⟩)) .exact))[G0.length + j]? = some (.cells (arrC P fun _ => [C.str []]) .exact) := by
          intro j hj
          rw [set_get' (by omega), app_lt (by omega)]; exact hpg j hj
        have l2 : (G1.set bb (.cells ((arrC B fun j => if j < i then blk1 G0.length P bad j else blk0).set (i * 4) (.sl 1 ⟨some (G0.length + i, 0), P, P⟩)) .exact)).length = G0.length + (i + 1) := by
          simp [G1, hlen]; omega
        have a2 := arrC_set (blkI_len G0.length P bad i) (j := 0) (by decide) (.sl 1 ⟨some (G0.length + i, 0), P, P⟩) hlt
        rw [Nat.add_zero] at a2
        rw [a2] at w1 k2 b2 p2 p2' l2
        have mk : mkS G 16 [.str []] (P : Int) (P : Int) = some (⟨some (G0.length + i, 0), P, P⟩, G1) := by rw [mkS_of (by omega) (by omega), hlen]
        generalize hG2 : G1.set bb (.cells (arrC B fun k => if k = i then (if i < i then blk1 G0.length P bad i else blk0).set 0 (.sl 1 ⟨some (G0.length + i, 0), P, P⟩) else if k < i then blk1 G0.length P bad k else blk0) .exact) = G2 at w1 k2 b2 p2 p2' l2
        have c3' : rdSl 4 G2 r15.2.length 3 = some ⟨some (bb, 0), B, B⟩ := rdSl_of (k2.get hc n1) hc3
        have cb : rdSl 1 G2 H1.length 2 = some fb := rdSl_of (k2.get f1 n3) f2
        have hct := contains_eq (hbad.keep k2 fun b o hp => n4 b o hp) hbl (i : Int)
        have hf4 : ∀ k, (if k = i then (if i < i then blk1 G0.length P bad i else blk0).set 0 (.sl 1 ⟨some (G0.length + i, 0), P, P⟩) else if k < i then blk1 G0.length P bad k else blk0).length = 4 := by
          intro k; split
          · rw [if_neg (Nat.lt_irrefl i)]; rfl
          · exact blkI_len G0.length P bad i k
        -- mark
        have w3 := wr1_of (o := i * 4 + 3) (c := .bool (decide ((i : Int) ∈ bad))) b2 (by decide) (by rw [arrC_length hf4]; exact lt_mul hlt (by decide))
        rw [arrC_set hf4 (by decide) _ hlt] at w3
        have k3 := k2.trans (Keep.set (F := fun k => k = bb) G2 bb (.cells (arrC B fun k => if k = i then (if i = i then (if i < i then blk1 G0.length P bad i else blk0).set 0 (.sl 1 ⟨some (G0.length + i, 0), P, P⟩) else if i < i then blk1 G0.length P bad i else blk0).set 3 (.bool (decide ((i : Int) ∈ bad))) else (if k = i then (if i < i then blk1 G0.length P bad i else blk0).set 0 (.sl 1 ⟨some (G0.length + i, 0), P, P⟩) else if k < i then blk1 G0.length P bad k else blk0)) .exact) rfl)
        have b3 := set_get (x := .cells (arrC B fun k => if k = i then (if i = i then (if i < i then blk1 G0.length P bad i else blk0).set 0 (.sl 1 ⟨some (G0.length + i, 0), P, P⟩) else if i < i then blk1 G0.length P bad i else blk0).set 3 (.bool (decide ((i : Int) ∈ bad))) else (if k = i then (if i < i then blk1 G0.length P bad i else blk0).set 0 (.sl 1 ⟨some (G0.length + i, 0), P, P⟩) else if k < i then blk1 G0.length P bad k else blk0)) .exact) (get_lt b2)
        have ecng : (arrC B fun k => if k = i then (if i = i then (if i < i then blk1 G0.length P bad i else blk0).set 0 (.sl 1 ⟨some (G0.length + i, 0), P, P⟩) else if i < i then blk1 G0.length P bad i else blk0).set 3 (.bool (decide ((i : Int) ∈ bad))) else (if k = i then (if i < i then blk1 G0.length P bad i else blk0).set 0 (.sl 1 ⟨some (G0.length + i, 0), P, P⟩) else if k < i then blk1 G0.length P bad k else blk0))
            = arrC B fun k => if k = i then [.sl 1 ⟨some (G0.length + i, 0), P, P⟩, .int .i64 0, .bool false, .bool (decide ((i : Int) ∈ bad))] else if k < i then blk1 G0.length P bad k else blk0 := by
          refine arrC_congr fun k _ => ?_
          by_cases e : k = i
          · rw [if_pos e, if_pos e, if_pos rfl, if_neg (Nat.lt_irrefl i)]; rfl
          · rw [if_neg e, if_neg e, if_neg e]
        rw [ecng] at w3 k3 b3
        have p3 : ∀ j, j < i + 1 → (G2.set bb (.cells (arrC B fun k => if k = i then [.sl 1 ⟨some (G0.length + i, 0), P, P⟩, .int .i64 0, .bool false, .bool (decide ((i : Int) ∈ bad))] else if k < i then blk1 G0.length P bad k else blk0) .exact))[G0.length + j]? = some (.cells (arrC P fun _ => [C.str []]) .exact) := by
          intro j hj
          rw [set_get' (by omega)]
          by_cases e : j = i
          · rw [e]; exact p2
          · exact p2' j (by omega)
        have l3 : (G2.set bb (.cells (arrC B fun k => if k = i then [.sl 1 ⟨some (G0.length + i, 0), P, P⟩, .int .i64 0, .bool false, .bool (decide ((i : Int) ∈ bad))] else if k < i then blk1 G0.length P bad k else blk0) .exact)).length = G0.length + (i + 1) := by rw [List.length_set]; exact l2
        generalize hG3 : G2.set bb (.cells (arrC B fun k => if k = i then [.sl 1 ⟨some (G0.length + i, 0), P, P⟩, .int .i64 0, .bool false, .bool (decide ((i : Int) ∈ bad))] else if k < i then blk1 G0.length P bad k else blk0) .exact) = G3 at w3 k3 b3 p3 l3
        have c3'' : rdSl 4 G3 r15.2.length 3 = some ⟨some (bb, 0), B, B⟩ := rdSl_of (k3.get hc n1) hc3
        have hf5 : ∀ k, (if k = i then [C.sl 1 ⟨some (G0.length + i, 0), P, P⟩, .int .i64 0, .bool false, .bool (decide ((i : Int) ∈ bad))] else if k < i then blk1 G0.length P bad k else blk0).length = 4 := by
          intro k; split
          · rfl
          · exact blkI_len G0.length P bad i k
        have rb : rdB G3 bb (i * 4 + 3) = some (decide ((i : Int) ∈ bad)) := rdB_of b3 (by rw [arrC_get hf5 (by decide) hlt, if_pos rfl]; rfl)
        have w4 := wr1_of (o := i * 4 + 2) (c := .bool (decide ((i : Int) ∈ bad))) b3 (by decide) (by rw [arrC_length hf5]; exact lt_mul hlt (by decide))
        rw [arrC_set hf5 (by decide) _ hlt] at w4
        have efin : (arrC B fun k => if k = i then (if i = i then [C.sl 1 ⟨some (G0.length + i, 0), P, P⟩, .int .i64 0, .bool false, .bool (decide ((i : Int) ∈ bad))] else if i < i then blk1 G0.length P bad i else blk0).set 2 (.bool (decide ((i : Int) ∈ bad))) else (if k = i then [C.sl 1 ⟨some (G0.length + i, 0), P, P⟩, .int .i64 0, .bool false, .bool (decide ((i : Int) ∈ bad))] else if k < i then blk1 G0.length P bad k else blk0))
            = arrC B fun k => if k < i + 1 then blk1 G0.length P bad k else blk0 := by
          refine arrC_congr fun k _ => ?_
          by_cases e : k = i
          · subst e; rw [if_pos rfl, if_pos rfl, if_pos (by omega)]; rfl
          · rw [if_neg e, if_neg e]
            by_cases e2 : k < i
            · rw [if_pos e2, if_pos (by omega)]
            · rw [if_neg e2, if_neg (by omega)]
        rw [efin] at w4
        simp only [decide_eq_true (show (i : Int) < (B : Int) by omega), cond_t, c3, bind_some, cP, mk, hat, w1, c3', cb, hct, if_true, w3, c3'', rb, w4, Round, wrap_succ (show i < 9223372036854775807 by omega)]
        refine ⟨⟨i + 1, hlt, rfl, by rw [List.length_set]; exact l3, set_get (get_lt b3), fun j hj => ?_, k3.trans (Keep.set _ _ _ rfl)⟩, by simp; omega⟩
        rw [set_get' (by omega)]; exact p3 j hj
      · have : i = B := by omega
        subst this
        simp only [decide_eq_false (show ¬ ((i : Nat) : Int) < (i : Int) by omega), cond_f, Round]
        refine ⟨?_, hpg, hK⟩
        rw [hgb]
        congr 2
        exact arrC_congr fun k hk => by rw [if_pos hk]) (0, ()) G0 ⟨0, Nat.zero_le _, rfl, rfl, by rw [hbb]; simp, fun j hj => absurd hj (Nat.not_lt_zero _), Keep.refl _ _⟩
  exact ⟨G, l1, l2⟩
end Ev

/- Slices that came in: their beginnings. -/
namespace Ev
open Go (IntKind)

theorem came_stay {cts : List CT} {B H : Heap} {s : Sl} (h : Came cts B s H) : Keep (fun _ => False) B H := by
  rcases h with ⟨_, rfl⟩ | ⟨_, rows, _, _, _, rfl, _⟩
  · exact Keep.refl _ _
  · exact Keep.push _ _ _
theorem came_fits {cts : List CT} {B H : Heap} {s : Sl} (h : Came cts B s H) : s.len ≤ s.cap := by
  rcases h with ⟨rfl, rfl⟩ | ⟨len, rows, rfl, h1, _⟩
  · exact Nat.le_refl _
  · exact h1
theorem rowsC_take {cts : List CT} : ∀ (rows : List (Tup cts)) (n : Nat), rowsOf cts (rows.take n) = (rowsOf cts rows).take (n * cts.length)
  | [], n => by simp [rowsOf]
  | x :: r, 0 => by simp [rowsOf]
  | x :: r, n + 1 => by
    have ih := rowsC_take r n
    simp only [rowsOf, List.take_succ_cons, List.map_cons, List.flatten_cons] at ih ⊢
    rw [ih, List.take_append, List.take_of_length_le (l := Tup.mk cts x) (by rw [Tup.mk_length, Nat.succ_mul]; omega), Tup.mk_length]
    congr 2
    rw [Nat.succ_mul]; omega
theorem row_front {cts : List CT} {H : Heap} {s : Sl} {rows : List (Tup cts)} (h : Row H cts.length s (rowsOf cts rows)) (hl : s.len = rows.length) (hc : s.len ≤ s.cap) {n : Nat} (hn : n ≤ s.len) :
    Sl.sub cts.length s 0 (n : Int) (s.cap : Int) = some ⟨s.p, n, s.cap⟩ ∧ Row H cts.length ⟨s.p, n, s.cap⟩ (rowsOf cts (rows.take n)) := by
  constructor
  · unfold Sl.sub
    have : decide (0 ≤ (0 : Int) ∧ (0 : Int) ≤ (n : Int) ∧ (n : Int) ≤ (s.cap : Int) ∧ (s.cap : Int) ≤ (s.cap : Int)) = true := decide_eq_true (by omega)
    rw [this, cond_t]
    cases hp : s.p with
    | none => simp
    | some a => simp
  · refine ⟨?_, fun hp => by have := h.nil hp; show n = 0; omega⟩
    cases hp : s.p with
    | none =>
      have h0 := h.nil hp
      have : n = 0 := by omega
      subst this
      simp [slRow, rowsOf]
    | some x =>
      obtain ⟨cs, bk, h1, h2, h3⟩ := slRow_some (b := x.1) (o := x.2) hp h.row
      have hle : n * cts.length ≤ s.len * cts.length := Nat.mul_le_mul_right _ hn
      unfold slRow
      simp only [Heap.row, h1]
      rw [cut_of (by omega), rowsC_take, ← h3, List.take_take, Nat.min_eq_left hle]
end Ev

/- Loops of which each round is only known to go well. -/
namespace Ev
open Go

/-- A loop that counts; the heaps are only known to be there. -/
theorem loop_rise {S X : Type} {step : S → Heap → Option ((S ⊕ X) × Heap)} (n : Nat) (I : Nat → S → Heap → Prop) (Q : X → Heap → Prop)
    (hs : ∀ i y G, i < n → I i y G → (∃ y' G', step y G = some (.inl y', G') ∧ I (i + 1) y' G') ∨ ∃ x G', step y G = some (.inr x, G') ∧ Q x G')
    (he : ∀ y G, I n y G → ∃ x G', step y G = some (.inr x, G') ∧ Q x G') {y : S} {H : Heap} (h0 : I 0 y H) : ∃ x G, loopW step y H = some (x, G) ∧ Q x G := by
  have key : ∀ d i y G, i + d = n → I i y G → ∃ m x G', iter step m y G = some (x, G') ∧ Q x G' := by
    intro d
    induction d with
    | zero =>
      intro i y G hi hI
      have : i = n := by omega
      subst this
      obtain ⟨x, G', g1, g2⟩ := he y G hI
      exact ⟨1, x, G', by rw [iter, g1]; rfl, g2⟩
    | succ d ih =>
      intro i y G hi hI
      rcases hs i y G (by omega) hI with ⟨y', G', g1, g2⟩ | ⟨x, G', g1, g2⟩
      · obtain ⟨m, x, G2, g3, g4⟩ := ih (i + 1) y' G' (by omega) g2
        exact ⟨m + 1, x, G2, by rw [iter, g1]; exact g3, g4⟩
      · exact ⟨1, x, G', by rw [iter, g1]; rfl, g2⟩
  obtain ⟨m, x, G, g1, g2⟩ := key n 0 y H (by omega) h0
  exact ⟨x, G, loopW_eq g1, g2⟩
open Go (IntKind) in
theorem tmod_pick (x : Int) (B : Nat) (hB : 0 < B) (hB2 : B ≤ 100000000) : ∃ i : Nat, i < B ∧ Int.tmod (IntKind.wrap .i64 (Int.tmod x (B : Int) + (B : Int))) (B : Int) = (i : Int) := by
  have h1 := Int.tmod_lt_of_pos x (show (0 : Int) < (B : Int) by omega)
  have h2 : -(B : Int) < Int.tmod x (B : Int) := by
    have := Int.lt_tmod_of_pos x (show (0 : Int) < (B : Int) by omega)
    exact this
  rw [wrap_i64 (by omega) (by omega)]
  obtain ⟨m, hm⟩ : ∃ m : Nat, Int.tmod x (B : Int) + (B : Int) = (m : Int) := ⟨(Int.tmod x (B : Int) + (B : Int)).toNat, (Int.toNat_of_nonneg (by omega)).symm⟩
  rw [hm]
  exact ⟨m % B, Nat.mod_lt _ hB, rfl⟩
end Ev
