/- Chapter 31: what the laws share. -/
import Derived.Test.YtdjmipkijimajaaGLaw31
import Derived.Test.YtdjmipkijimajaaSGeo
import Derived.Test.YtdjmipkijimajaaSBusH
namespace Ev
open Go (IntKind)

theorem loop_up {S X : Type} {step : S → Heap → Option ((S ⊕ X) × Heap)} (n : Nat) (st : Nat → S) (I : Nat → Heap → Prop) (Q : Heap → Prop) (x : X)
    (hs : ∀ i G, i < n → I i G → ∃ G', step (st i) G = some (.inl (st (i + 1)), G') ∧ I (i + 1) G') (he : ∀ G, I n G → ∃ G', step (st n) G = some (.inr x, G') ∧ Q G') {H : Heap} (h0 : I 0 H) : ∃ G, loopW step (st 0) H = some (x, G) ∧ Q G := by
  have key : ∀ d i G, i + d = n → I i G → ∃ G', iter step (d + 1) (st i) G = some (x, G') ∧ Q G' := by
    intro d
    induction d with
    | zero =>
      intro i G hi hI
      have : i = n := by omega
      subst this
      obtain ⟨G', g1, g2⟩ := he G hI
      exact ⟨G', by rw [iter, g1]; rfl, g2⟩
    | succ d ih =>
      intro i G hi hI
      obtain ⟨G', g1, g2⟩ := hs i G (by omega) hI
      obtain ⟨G2, g3, g4⟩ := ih (i + 1) G' (by omega) g2
      exact ⟨G2, by rw [iter, g1]; exact g3, g4⟩
  obtain ⟨G, g1, g2⟩ := key n 0 H (by omega) h0
  exact ⟨G, loopW_eq g1, g2⟩

def Bs.new : Bs := ⟨0, 0, 0, [], [], [], 0, 0, false, false, 0⟩
theorem new_wf {a : NdA} {cuts : List Cut} {fails bad : List Int} (hcu : ∀ x ∈ cuts, 0 ≤ x.2.2.1 ∧ x.2.2.1 < 256) (hsz : 1 ≤ a.B ∧ a.B ≤ 1000 ∧ 1 ≤ a.P ∧ a.P ≤ 1000 ∧ a.S ≤ 1000) : Wf a (Nd.new cuts fails bad) 0 :=
  ⟨⟨Int.le_refl _, Int.le_refl _⟩, fun _ => ⟨Int.le_refl _, Int.le_refl _⟩, hcu, fun _ _ => .inl rfl, by decide, hsz⟩
theorem new_good : Good Bs.new 0 := ⟨Int.le_refl _, fun h => (by cases h), fun h => (by cases h), fun h => (by cases h), Nat.zero_le _, Nat.zero_le _, ⟨Nat.zero_le _, Nat.le_refl _⟩, Nat.zero_le _⟩

theorem begun31 {H : Heap} {f1 f2 f3 t1 t2 t3 : Sl} {cuts : List Cut} {fails bad : List Int} (g : Geo)
    (s1 : Sl.sub 3 f1 0 (if 4 < (f1.len : Int) then 4 else (f1.len : Int)) (f1.cap : Int) = some t1)
    (s2 : Sl.sub 1 f2 0 (if 4 < (f2.len : Int) then 4 else (f2.len : Int)) (f2.cap : Int) = some t2)
    (s3 : Sl.sub 1 f3 0 (if 4 < (f3.len : Int) then 4 else (f3.len : Int)) (f3.cap : Int) = some t3)
    (hcu : Row H 3 t1 (cutC cuts)) (hfa : Row H 1 t2 (intC fails)) (hba : Row H 1 t3 (intC bad)) (hl1 : cuts.length ≤ 1099511627776) (hl2 : fails.length ≤ 1099511627776) (hl3 : bad.length ≤ 1099511627776) (hfi : ∀ x ∈ cuts, 0 ≤ x.2.2.1 ∧ x.2.2.1 < 256) :
    ∃ H' a b, law31_begun g (f1, f2, f3, ()) H = some ((some (a.c, 0), some (b, 0), true, ()), H') ∧ Bg H' H.length b a (Nd.new cuts fails bad) Bs.new 0 ∧ Keep (fun _ => False) H H' ∧ (8 ≤ a.B ∧ a.B ≤ 15 ∧ 4 ≤ a.P ∧ a.P ≤ 11 ∧ 64 ≤ a.S ∧ a.S ≤ 127) := by
  unfold law31_begun
  obtain ⟨B, P, S, hsh, hB0, hB1, hP0, hP1, hS0, hS1, hok⟩ := shape_nat g
  let gB : Blk := .cells [.int .i64 g.1, .int .i64 g.2.1, .int .i64 g.2.2.1] .exact
  let fB : Blk := .cells [.sl 3 f1, .sl 1 f2, .sl 1 f3] .exact
  let H1 : Heap := H ++ [gB]
  let H2 : Heap := H1 ++ [fB]
  have e1 : H1.length = H.length + 1 := by simp [H1]
  have q1 : H ++ [Blk.cells [.int .i64 g.1, .int .i64 g.2.1, .int .i64 g.2.2.1] .exact] = H1 := rfl
  have q2 : H1 ++ [Blk.cells [.sl 3 f1, .sl 1 f2, .sl 1 f3] .exact] = H2 := rfl
  have g2 : H2[H.length]? = some gB := by rw [app_lt (by omega)]; exact app_last
  have f2' : H2[H1.length]? = some fB := app_last
  have r1 := rd_geo (H := H2) (k := H.length) (g := g) (bk := .exact) g2
  obtain ⟨H3, k1, k2⟩ := geometry_eq g H2
  rw [hsh] at k1
  have f3' := k2.get f2' id
  have a0 : rdSl 3 H2 H1.length 0 = some f1 := rdSl_of f2' rfl
  have a1 : rdSl 1 H2 H1.length 1 = some f2 := rdSl_of f2' rfl
  have a2 : rdSl 1 H2 H1.length 2 = some f3 := rdSl_of f2' rfl
  have b0 : rdSl 3 H3 H1.length 0 = some f1 := rdSl_of f3' rfl
  have b1 : rdSl 1 H3 H1.length 1 = some f2 := rdSl_of f3' rfl
  have b2 : rdSl 1 H3 H1.length 2 = some f3 := rdSl_of f3' rfl
  have k3 : Keep (fun _ => False) H H3 := ((Keep.push _ _ _).trans (Keep.push _ _ _)).trans k2
  obtain ⟨H4, a, n1, n2, n3, nB, nP, nS, n4⟩ := new_yes (B := B) (P := P) (S := S) (f := (t1, t2, t3, ())) (cuts := cuts) (fails := fails) (bad := bad) H3 hok (hcu.keep k3 fun _ _ _ => id) (hfa.keep k3 fun _ _ _ => id) (hba.keep k3 fun _ _ _ => id) hl1 hl2 hl3
  obtain ⟨H5, o1, o2, o3⟩ := nand_geometry n2
  have k5 : Keep (fun _ => False) H H5 := (k3.trans n3).trans o3
  have hl5 := k5.len
  let nB' : Blk := .cells [.ptr (some (a.c, 0)), .int .i64 0, .int .u8 0, .int .i64 0, .sl 1 ⟨none, 0, 0⟩, .sl 1 ⟨none, 0, 0⟩, .str [], .int .i64 0, .int .i64 0, .bool false, .bool false, .int .i64 0] .exact
  have hB : decide ((a.B : Int) = 0) = false := decide_eq_false (by omega)
  have hnew : bus_New (some (a.c, 0)) H4 = some ((some (H5.length, 0), 0, ()), H5 ++ [nB']) := by
    unfold bus_New
    simp only [o1, bind_some, hB, cond_f]
    rfl
  have hbx : Bx (H5 ++ [nB']) H.length H5.length a (Nd.new cuts fails bad) Bs.new ⟨none, 0, 0⟩ ⟨none, 0, 0⟩ :=
    { nd := o2.push _, cell := app_last, ga := Grown.ni _ 1, gi := Grown.ni _ 1, not := fun hf => by have := o2.own_lt hf; omega, na := fun x hx => (by cases hx), ni := fun x hx => (by cases hx), ai := fun x y hx => (by cases hx),
      lo := fun x hx => by have := n4 x hx; have := k3.len; omega, lb := hl5, sm := by decide }
  refine ⟨H5 ++ [nB'], a, H5.length, ?_, ⟨⟨_, _, hbx⟩, new_wf hfi (by omega), new_good⟩, k5.trans (Keep.push _ _ _), by omega⟩
  have eg : (g.1, g.2.1, g.2.2.1, ()) = g := rfl
  simp only [q1, q2, r1, bind_some, eg, a0, a1, a2, s1, s2, s3, k1, b0, b1, b2, if_true, n1, hnew, decide_true, cond_t]

theorem begun0 (H : Heap) (g : Geo) : ∃ H' a b, law31_begun g (⟨none, 0, 0⟩, ⟨none, 0, 0⟩, ⟨none, 0, 0⟩, ()) H = some ((some (a.c, 0), some (b, 0), true, ()), H') ∧ Bg H' H.length b a (Nd.new [] [] []) Bs.new 0 ∧ Keep (fun _ => False) H H' ∧ (8 ≤ a.B ∧ a.B ≤ 15 ∧ 4 ≤ a.P ∧ a.P ≤ 11 ∧ 64 ≤ a.S ∧ a.S ≤ 127) :=
  begun31 (t1 := ⟨none, 0, 0⟩) (t2 := ⟨none, 0, 0⟩) (t3 := ⟨none, 0, 0⟩) g rfl rfl rfl (Row.ni H 3 0) (Row.ni H 1 0) (Row.ni H 1 0) (by decide) (by decide) (by decide) (fun x hx => by cases hx)

/-! Bytes that are told. -/
theorem arr_cells : ∀ n : Nat, arrC n (fun _ => [C.int .u8 0]) = cellsOf (List.replicate n 0)
  | 0 => rfl
  | n + 1 => by
    rw [arrC, arr_cells n, List.replicate_succ', cells_app]; rfl
theorem mkS_b {H : Heap} {n : Nat} (h : n ≤ 35184372088832) : mkS H 1 [.int .u8 0] (n : Int) (n : Int) = some (⟨some (H.length, 0), n, n⟩, H ++ [.cells (cellsOf (List.replicate n 0)) .exact]) := by
  rw [mkS_of (by omega) h, arr_cells]
def Bs.outs : Nat → Bs → Bs
  | 0, k => k
  | n + 1, k => (Bs.outs n k).outF.2
def Bs.bytes (n : Nat) (k : Bs) : Bytes := (List.range n).map fun i => UInt8.ofNat (Bs.outs i k).outF.1.toNat
theorem bytes_succ (n : Nat) (k : Bs) : Bs.bytes (n + 1) k = Bs.bytes n k ++ [UInt8.ofNat (Bs.outs n k).outF.1.toNat] := by simp [Bs.bytes, List.range_succ]
theorem bytes_length (n : Nat) (k : Bs) : (Bs.bytes n k).length = n := by simp [Bs.bytes]
theorem out_byte (k : Bs) : 0 ≤ k.outF.1 ∧ k.outF.1 < 256 := by
  unfold Bs.outF
  cases k.asked with
  | true =>
    show 0 ≤ k.stat ∧ k.stat < 256
    unfold Bs.stat
    cases k.fail <;> cases decide (k.poll.busy = 0) <;> decide
  | false =>
    simp only [cond_f]
    cases (!decide (k.busy = 0) || !decide ((k.st : Int) = 4)) with
    | true => exact (by decide : (0 : Int) ≤ 255 ∧ (255 : Int) < 256)
    | false =>
      simp only [cond_f]
      split
      · rename_i h
        have := (k.out[k.at']'h).toNat_lt
        show 0 ≤ (((k.out[k.at']'h).toNat : Nat) : Int) ∧ (((k.out[k.at']'h).toNat : Nat) : Int) < 256
        omega
      · exact (by decide : (0 : Int) ≤ 255 ∧ (255 : Int) < 256)
theorem ofNat_byte {x : Int} (h : 0 ≤ x ∧ x < 256) : (((UInt8.ofNat x.toNat).toNat : Nat) : Int) = x := by
  have : (UInt8.ofNat x.toNat).toNat = x.toNat := by simp; omega
  rw [this]; omega

section
variable {H : Heap} {L b : Nat} {a : NdA} {s : Nd} {k : Bs} {sa si : Sl} {T : Int}

theorem Bx.keepF (h : Bx H L b a s k sa si) {F : Nat → Prop} {H' : Heap} (kp : Keep F H H') (h1 : ∀ x, a.own x → ¬ F x) (h2 : ¬ F b) (h3 : ∀ x, sa.p = some x → ¬ F x.1) (h4 : ∀ x, si.p = some x → ¬ F x.1) : Bx H' L b a s k sa si where
  nd := h.nd.keep kp h1
  cell := kp.get h.cell h2
  ga := h.ga.mono fun x hx => kp.same _ (h.ga.lt hx) (h3 x hx)
  gi := h.gi.mono fun x hx => kp.same _ (h.gi.lt hx) (h4 x hx)
  not := h.not
  na := h.na
  ni := h.ni
  ai := h.ai
  lo := h.lo
  lb := h.lb
  sm := h.sm
theorem Bg.take (h : Bg H L b a s k T) (n : Nat) (hT : T + n < 999999) (hn : n ≤ 100000) : ∃ H', law31_take (some (b, 0)) (n : Int) H = some ((Bs.bytes n k, ()), H') ∧ Bg H' L b a s (Bs.outs n k) (T + n) ∧ Keep (fun x => L ≤ x) H H' := by
  obtain ⟨⟨sa, si, hx⟩, w, g⟩ := h
  have hsm := w.small
  have hT0 := w.did
  have hmk := mkS_b (H := H) (n := n) (by omega)
  have hbl := get_lt hx.cell
  have hlb := hx.lb
  obtain ⟨G, l1, l2, l3, l4, l5⟩ := loop_up (step := law31_take.s1 (some (b, 0)) (n : Int) (⟨some (H.length, 0), n, n⟩, H ++ [.cells (cellsOf (List.replicate n 0)) .exact])) (X := Unit) n (fun i => ((i : Int), ()))
    (fun i G => Bx G L b a s (Bs.outs i k) sa si ∧ Good (Bs.outs i k) (T + i) ∧ G[H.length]? = some (.cells (cellsOf (Bs.bytes i k ++ List.replicate (n - i) 0)) .exact) ∧ Keep (fun x => L ≤ x) H G) _ ()
    (by
      intro i G hi ⟨i1, i2, i3, i4⟩
      obtain ⟨G1, o1, o2, o3⟩ := bus_Out i1 i2 (by omega)
      have hat : Sl.at 1 ⟨some (H.length, 0), n, n⟩ (i : Int) = some (H.length, i) := by rw [at_of (by omega) (by omega), Int.toNat_natCast, Nat.mul_one, Nat.zero_add]
      have hF : ∀ G2, Keep (fun x => x = H.length) G1 G2 → Bx G2 L b a s (Bs.outs (i + 1) k) sa si := fun G2 kp => Bx.keepF o2 kp (fun x hx' e => by have := hx.nd.own_lt hx'; omega) (by omega) (fun x hx' e => by have := hx.ga.lt hx'; omega) (fun x hx' e => by have := hx.gi.lt hx'; omega)
      have c1 : G1[H.length]? = some (.cells (cellsOf (Bs.bytes i k ++ List.replicate (n - i) 0)) .exact) := o3.get i3 (by omega)
      have w1 := wr_of (o := i) (new := [.int .u8 (Bs.outs i k).outF.1]) c1 (by decide) (by rw [cells_len, List.length_append, bytes_length, List.length_replicate]; show i + 1 ≤ _; omega)
      have hset : setL (cellsOf (Bs.bytes i k ++ List.replicate (n - i) 0)) i [.int .u8 (Bs.outs i k).outF.1] = cellsOf (Bs.bytes (i + 1) k ++ List.replicate (n - (i + 1)) 0) := by
        rw [show n - i = (n - (i + 1)) + 1 by omega, List.replicate_succ, bytes_succ, List.append_assoc, cells_app, cells_app]
        have := setL_mid [.int .u8 (Bs.outs i k).outF.1] [.int .u8 0] (cellsOf (Bs.bytes i k)) (cellsOf (List.replicate (n - (i + 1)) 0)) i (by rw [cells_len, bytes_length]) rfl
        rw [List.append_assoc, List.append_assoc] at this
        refine this.trans ?_
        rw [cells_app]
        show _ ++ ([C.int .u8 (Bs.outs i k).outF.1] ++ _) = _ ++ (([C.int .u8 (((UInt8.ofNat (Bs.outs i k).outF.1.toNat).toNat : Nat) : Int)]) ++ _)
        rw [ofNat_byte (out_byte _)]
      rw [hset] at w1
      have kp : Keep (fun x => x = H.length) G1 (G1.set H.length (.cells (cellsOf (Bs.bytes (i + 1) k ++ List.replicate (n - (i + 1)) 0)) .exact)) := Keep.set _ _ _ rfl
      refine ⟨_, ?_, hF _ kp, by have := outF_good i2; rw [show T + ((i + 1 : Nat) : Int) = T + (i : Int) + 1 by omega]; exact this, by rw [set_get (get_lt c1)], (i4.trans (i1.lowb o3)).trans (kp.mono fun x e => by omega)⟩
      unfold law31_take.s1
      simp only [decide_eq_true (show (i : Int) < (n : Int) by omega), cond_t, o1, bind_some, hat, w1, wrap_succ (show i < 9223372036854775807 by omega)])
    (by
      intro G hI
      refine ⟨G, ?_, hI⟩
      unfold law31_take.s1
      simp only [decide_eq_false (show ¬ (n : Int) < (n : Int) by omega), cond_f])
    ⟨hx.push _, (show Good k _ from g.le (by omega)), by rw [app_last], Keep.push _ _ _⟩
  refine ⟨G, ?_, ⟨⟨sa, si, l2⟩, w.le (by omega) (by omega), l3⟩, l5⟩
  have hst : strOf G ⟨some (H.length, 0), n, n⟩ = some (Bs.bytes n k) := strOf_of l4 (by rw [cells_len, List.length_append, bytes_length]; omega) (by
    rw [Nat.sub_self, show List.replicate 0 (0 : UInt8) = [] from rfl, List.append_nil, List.drop_zero, List.take_of_length_le]; rw [cells_len, bytes_length]; exact Nat.le_refl _)
  unfold law31_take
  simp only [hmk, bind_some]
  rw [show loopW (law31_take.s1 (some (b, 0)) (n : Int) (⟨some (H.length, 0), n, n⟩, H ++ [.cells (cellsOf (List.replicate n 0)) .exact])) (0, ()) (H ++ [.cells (cellsOf (List.replicate n 0)) .exact]) = some ((), G) from l1]
  simp only [bind_some, hst]

/-- Polls until it is ready. -/
theorem Bg.polls (h : Bg H L b a s k T) (m : Nat) (hm : 1 ≤ m ∧ m ≤ 15) (hk : k.busy = m) : ∃ H', law31_polls (some (b, 0)) H = some (((m : Int), ()), H') ∧ Bg H' L b a s { k with busy := 0 } T ∧ Keep (fun x => L ≤ x) H H' := by
  obtain ⟨G, l1, l2, l3⟩ := loop_up (step := law31_polls.s1 (some (b, 0))) (X := Unit ⊕ (Int × Unit)) (m - 1) (fun i => (((i + 1 : Nat) : Int), ()))
    (fun i G => Bg G L b a s { k with busy := m - i } T ∧ Keep (fun x => L ≤ x) H G) (fun G => Bg G L b a s { k with busy := 0 } T ∧ Keep (fun x => L ≤ x) H G) (.inr ((m : Int), ()))
    (by
      intro i G hi ⟨i1, i2⟩
      obtain ⟨G1, o1, o2, o3⟩ := i1.ready
      refine ⟨G1, ?_, o2, i2.trans o3⟩
      have hz : decide ((({ k with busy := m - i } : Bs).poll).busy = 0) = false := decide_eq_false (by show ¬ m - i - 1 = 0; omega)
      rw [hz] at o1
      unfold law31_polls.s1
      simp only [decide_eq_true (show ((i + 1 : Nat) : Int) < 50 by omega), cond_t, o1, bind_some, cond_f, wrap_succ (show i + 1 < 9223372036854775807 by omega)])
    (by
      intro G ⟨i1, i2⟩
      obtain ⟨G1, o1, o2, o3⟩ := i1.ready
      have e : (({ k with busy := m - (m - 1) } : Bs).poll) = { k with busy := 0 } := by
        unfold Bs.poll
        simp only
        congr 1
        omega
      rw [e] at o1 o2
      refine ⟨G1, ?_, o2, i2.trans o3⟩
      unfold law31_polls.s1
      have hz : decide (({ k with busy := 0 } : Bs).busy = 0) = true := decide_eq_true rfl
      rw [hz] at o1
      simp only [show m - 1 + 1 = m by omega, decide_eq_true (show (m : Int) < 50 by omega), cond_t, o1, bind_some])
    (H := H) ⟨by
      have : ({ k with busy := m - 0 } : Bs) = k := by cases k; simp only at hk; subst hk; rfl
      rw [this]; exact h, Keep.refl _ _⟩
  refine ⟨G, ?_, l2, l3⟩
  unfold law31_polls
  rw [show loopW (law31_polls.s1 (some (b, 0))) (1, ()) H = some (.inr ((m : Int), ()), G) from l1]
  rfl

/-! An address's bytes. -/
def addrs (a : NdA) (q : Nd × Bs) (l : Bytes) : Nd × Bs := l.foldl (fun q x => q.2.address a q.1 x) q
theorem addrs_snoc (a : NdA) (q : Nd × Bs) (l : Bytes) (x : UInt8) : addrs a q (l ++ [x]) = (addrs a q l).2.address a (addrs a q l).1 x := by simp [addrs, List.foldl_append]
theorem Bg.send (h : Bg H L b a s k T) (n m : Nat) (hm : m ≤ 3) (hT : T + 3 < 999999) : ∃ H', law31_send (some (b, 0)) (n : Int) (m : Int) H = some ((), H') ∧ Bg H' L b a (addrs a (s, k) (leB m n)).1 (addrs a (s, k) (leB m n)).2 (T + m) ∧ Keep (fun x => L ≤ x) H H' := by
  obtain ⟨G, l1, l2, l3⟩ := loop_up (step := law31_send.s1 (some (b, 0)) (n : Int) (m : Int)) (X := Unit) m (fun i => ((i : Int), ()))
    (fun i G => Bg G L b a (addrs a (s, k) (leB i n)).1 (addrs a (s, k) (leB i n)).2 (T + i) ∧ Keep (fun x => L ≤ x) H G) (fun G => Bg G L b a (addrs a (s, k) (leB m n)).1 (addrs a (s, k) (leB m n)).2 (T + m) ∧ Keep (fun x => L ≤ x) H G) ()
    (by
      intro i G hi ⟨i1, i2⟩
      obtain ⟨G1, o1, o2, o3⟩ := i1.address (by omega) (UInt8.ofNat (n / 256 ^ i % 256))
      refine ⟨G1, ?_, by
        rw [leB_snoc, addrs_snoc, show T + ((i + 1 : Nat) : Int) = T + (i : Int) + 1 by omega]; exact o2, i2.trans o3⟩
      have ew : IntKind.wrap .u64 (IntKind.wrap .i64 (8 * (i : Int))) = ((8 * i : Nat) : Int) := by rw [wrap_i64 (by omega) (by omega), wrap_u64]; omega
      have eb : IntKind.wrap .u8 (Int.fdiv (n : Int) (2 ^ (min (Int.toNat ((8 * i : Nat) : Int)) (IntKind.bits .i64)))) = (((UInt8.ofNat (n / 256 ^ i % 256)).toNat : Nat) : Int) := by
        rw [Int.toNat_natCast, show min (8 * i) (IntKind.bits .i64) = 8 * i by show min (8 * i) 64 = _; omega, shr_nat, Nat.shiftRight_eq_div_pow, Nat.pow_mul, wrap_u8]
        have : (UInt8.ofNat (n / 256 ^ i % 256)).toNat = n / 256 ^ i % 256 := by simp
        rw [this]
        show ((n / 256 ^ i : Nat) : Int) % 256 = _
        omega
      unfold law31_send.s1
      simp only [decide_eq_true (show (i : Int) < (m : Int) by omega), cond_t, ew, decide_eq_false (show ¬ ((8 * i : Nat) : Int) < 0 by omega), cond_f, eb, o1, bind_some, wrap_succ (show i < 9223372036854775807 by omega)])
    (by
      intro G hI
      refine ⟨G, ?_, hI⟩
      unfold law31_send.s1
      simp only [decide_eq_false (show ¬ (m : Int) < (m : Int) by omega), cond_f])
    (H := H) ⟨by show Bg H L b a s k (T + ((0 : Nat) : Int)); exact h.le (by omega) (by have := h.2.1.small; omega), Keep.refl _ _⟩
  refine ⟨G, ?_, l2, l3⟩
  unfold law31_send
  rw [show loopW (law31_send.s1 (some (b, 0)) (n : Int) (m : Int)) (0, ()) H = some ((), G) from l1]
  rfl
end

theorem start (a : NdA) (s : Nd) (k : Bs) (c : Int) (hs : starts c = true) (h1 : c ≠ 255) (h2 : c ≠ 112) (hk : k.busy = 0) : k.command a s c = (s, ⟨1, c, wantsN c, [], [], [], 0, 0, k.fail, false, k.wrong⟩) := by
  unfold Bs.command Bs.beginF
  rw [if_neg h1, if_neg h2, if_pos hk, hs]
  cases k; simp only at hk; subst hk; rfl
theorem id1 (a : NdA) (s : Nd) (k : Bs) (hk : k.busy = 0) : k.command a s 144 = (s, ⟨1, 144, 1, [], [], [], 0, 0, k.fail, false, k.wrong⟩) := start a s k 144 rfl (by decide) (by decide) hk
theorem id2 (a : NdA) (s : Nd) (f : Bool) (w : Int) : Bs.address a s ⟨1, 144, 1, [], [], [], 0, 0, f, false, w⟩ 0 = (s, ⟨4, 144, 1, [0], [], [84, 66, 1], 0, 0, f, false, w⟩) := rfl
theorem awake31 : law31_awake = some (true, ()) := by
  obtain ⟨H1, a, b, b1, b2, b3, b4⟩ := begun0 [] (0, 0, 0, ())
  obtain ⟨H2, c1, c2, _⟩ := b2.command (by decide) 144
  rw [id1 _ _ _ rfl] at c2
  obtain ⟨H3, d1, d2, _⟩ := c2.address (by decide) 0
  rw [show Bs.new.fail = false from rfl, show Bs.new.wrong = 0 from rfl, id2] at d2
  have d1' : bus_Bus_Address (some (b, 0)) 0 H2 = some ((), H3) := d1
  obtain ⟨H4, e1, e2, _⟩ := d2.take 4 (by decide) (by decide)
  have hb : Bs.bytes 4 (⟨4, 144, 1, [0], [], [84, 66, 1], 0, 0, false, false, 0⟩ : Bs) = [84, 66, 1, 255] := rfl
  rw [hb] at e1
  have e1' : law31_take (some (b, 0)) 4 H3 = some (([84, 66, 1, 255], ()), H4) := e1
  have f1 : bus_Bus_Wrong (some (b, 0)) H4 = some ((0, ()), H4) := e2.wrong
  unfold law31_awake law31_awake.on
  simp only [b1, bind_some, Bool.not_true, cond_f, c1, d1', e1', decide_true, cond_t, f1]
end Ev
