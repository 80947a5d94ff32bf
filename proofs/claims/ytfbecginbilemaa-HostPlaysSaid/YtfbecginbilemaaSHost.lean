/- The host: how it stands in the heap; its small functions. -/
import Derived.Test.YtfbecginbilemaaGHost
import Derived.Test.YtfbecginbilemaaSBusF
import Derived.Test.YtfbecginbilemaaSNandOff
import Derived.Test.YtfbecginbilemaaUp
namespace Ev
open Go (IntKind)

section
variable {H : Heap} {L : Nat → Prop} {b : Nat} {a : NdA} {s : Nd} {k : Bs} {sa si : Sl} {T : Int}
/-- Foreign blocks turn. -/
theorem Bx.far (h : Bx H L b a s k sa si) {F : Nat → Prop} {H' : Heap} (kp : Keep F H H') (hF : ∀ x, F x → L x) : Bx H' L b a s k sa si where
  nd := h.nd.keep kp fun j hj hf => h.lo j hj (hF j hf)
  cell := kp.get h.cell fun hf => h.lb (hF b hf)
  ga := h.ga.mono fun x hx => kp.same _ (h.ga.lt hx) fun hf => (h.na x hx).2.2 (hF _ hf)
  gi := h.gi.mono fun x hx => kp.same _ (h.gi.lt hx) fun hf => (h.ni x hx).2.2 (hF _ hf)
  not := h.not
  na := h.na
  ni := h.ni
  ai := h.ai
  lo := h.lo
  lb := h.lb
  fl := fun x hx => Nat.lt_of_lt_of_le (h.fl x hx) kp.len
  sm := h.sm
theorem Bg.far (h : Bg H L b a s k T) {F : Nat → Prop} {H' : Heap} (kp : Keep F H H') (hF : ∀ x, F x → L x) : Bg H' L b a s k T := by
  obtain ⟨⟨sa, si, hx⟩, w, g⟩ := h
  exact ⟨⟨sa, si, hx.far kp hF⟩, w, g⟩
/-- Fewer blocks are foreign. -/
theorem Bg.less (h : Bg H L b a s k T) {L' : Nat → Prop} (hL : ∀ x, L' x → L x) : Bg H L' b a s k T := by
  obtain ⟨⟨sa, si, hx⟩, w, g⟩ := h
  exact ⟨⟨sa, si, { hx with na := fun x h => ⟨(hx.na x h).1, (hx.na x h).2.1, fun h2 => (hx.na x h).2.2 (hL _ h2)⟩, ni := fun x h => ⟨(hx.ni x h).1, (hx.ni x h).2.1, fun h2 => (hx.ni x h).2.2 (hL _ h2)⟩, lo := fun x h h2 => hx.lo x h (hL _ h2), lb := fun h2 => hx.lb (hL _ h2), fl := fun x h => hx.fl x (hL _ h) }⟩, w, g⟩
/-- A new block is foreign. -/
theorem Bg.add (h : Bg H L b a s k T) (x : Blk) : Bg (H ++ [x]) (fun y => L y ∨ y = H.length) b a s k T := by
  obtain ⟨⟨sa, si, hx⟩, w, g⟩ := h
  have hp := hx.push x
  have hb := get_lt hx.cell
  exact ⟨⟨sa, si, { hp with na := fun y hy => ⟨(hx.na y hy).1, (hx.na y hy).2.1, fun h2 => h2.elim (hx.na y hy).2.2 fun e => by have := hx.ga.lt hy; omega⟩, ni := fun y hy => ⟨(hx.ni y hy).1, (hx.ni y hy).2.1, fun h2 => h2.elim (hx.ni y hy).2.2 fun e => by have := hx.gi.lt hy; omega⟩, lo := fun y hy h2 => h2.elim (hx.lo y hy) fun e => by have := hx.nd.own_lt hy; omega, lb := fun h2 => h2.elim hx.lb fun e => by omega, fl := fun y hy => (by
    have hl : (H ++ [x]).length = H.length + 1 := by simp
    rcases hy with hy | rfl
    · have := hx.fl y hy; omega
    · omega) }⟩, w, g⟩
theorem Bg.nd (h : Bg H L b a s k T) : NdAt H a s := by
  obtain ⟨⟨sa, si, hx⟩, w, g⟩ := h
  exact hx.nd
theorem Bg.lt (h : Bg H L b a s k T) : b < H.length := by
  obtain ⟨⟨sa, si, hx⟩, w, g⟩ := h
  exact get_lt hx.cell
end

def hoC (g : Geo) (b : Nat) (n : Nat) : List C := [.ptr (some (b, 0)), .int .i64 g.1, .int .i64 g.2.1, .int .i64 g.2.2.1, .int .i64 (n : Int)]
def hoL (N : Nat → Prop) (h : Nat) : Nat → Prop := fun x => N x ∨ x = h
/-- A host in the heap. -/
structure Hg (g : Geo) (H : Heap) (N : Nat → Prop) (h b : Nat) (a : NdA) (s : Nd) (k : Bs) (T : Int) (n : Nat) : Prop where
  bg : Bg H (hoL N h) b a s k T
  cell : H[h]? = some (.cells (hoC g b n) .exact)
  nN : ¬ N h
  nn : (n : Int) ≤ 16 * T

abbrev geoA (a : NdA) : Geo := ((a.B : Int), (a.P : Int), (a.S : Int), ())
abbrev Ho (H : Heap) (N : Nat → Prop) (h b : Nat) (a : NdA) (s : Nd) (k : Bs) (T : Int) (n : Nat) : Prop := Hg ((a.B : Int), (a.P : Int), (a.S : Int), ()) H N h b a s k T n

section
variable {g : Geo} {H : Heap} {N : Nat → Prop} {h b : Nat} {a : NdA} {s : Nd} {k : Bs} {T : Int} {n : Nat}
theorem Hg.rb (o : Hg g H N h b a s k T n) : rdP H h 0 = some (some (b, 0)) := rdP_of o.cell rfl
theorem Hg.rB (o : Hg ((a.B : Int), (a.P : Int), (a.S : Int), ()) H N h b a s k T n) : rdI .i64 H h 1 = some (a.B : Int) := rdI_of o.cell rfl
theorem Hg.rP (o : Hg ((a.B : Int), (a.P : Int), (a.S : Int), ()) H N h b a s k T n) : rdI .i64 H h 2 = some (a.P : Int) := rdI_of o.cell rfl
theorem Hg.rS (o : Hg ((a.B : Int), (a.P : Int), (a.S : Int), ()) H N h b a s k T n) : rdI .i64 H h 3 = some (a.S : Int) := rdI_of o.cell rfl
theorem Hg.rn (o : Hg g H N h b a s k T n) : rdI .i64 H h 4 = some (n : Int) := rdI_of o.cell rfl
theorem Hg.wf (o : Hg g H N h b a s k T n) : Wf a s T := o.bg.2.1
theorem Hg.good (o : Hg g H N h b a s k T n) : Good k T := o.bg.2.2
theorem Hg.le (o : Hg g H N h b a s k T n) {T' : Int} (h1 : T ≤ T') (h2 : T' ≤ 1000000) : Hg g H N h b a s k T' n := ⟨o.bg.le h1 h2, o.cell, o.nN, by have := o.nn; omega⟩
theorem hoK {N : Nat → Prop} {h : Nat} {H H' : Heap} (kp : Keep (fun x => ¬ hoL N h x) H H') : Keep (fun x => ¬ N x) H H' := kp.mono fun x hx hn => hx (.inl hn)
/-- Something happens to the bus. -/
theorem Hg.step (o : Hg g H N h b a s k T n) {H' : Heap} {s' : Nd} {k' : Bs} {T' : Int} (gb : Bg H' (hoL N h) b a s' k' T') (kp : Keep (fun x => ¬ hoL N h x) H H') (hT : T ≤ T') : Hg g H' N h b a s' k' T' n :=
  ⟨gb, kp.get o.cell fun hh => hh (.inr rfl), o.nN, by have := o.nn; omega⟩
theorem Hg.none (o : Hg g H N h b a s k T n) {H' : Heap} (kp : Keep (fun _ => False) H H') : Hg g H' N h b a s k T n := ⟨o.bg.far kp fun _ hh => hh.elim, kp.get o.cell id, o.nN, o.nn⟩
/-- Blocks that are not the host's turn. -/
theorem Hg.far (o : Hg g H N h b a s k T n) {F : Nat → Prop} {H' : Heap} (kp : Keep F H H') (hF : ∀ x, F x → N x) : Hg g H' N h b a s k T n := ⟨o.bg.far kp fun x hx => .inl (hF x hx), kp.get o.cell fun hh => o.nN (hF h hh), o.nN, o.nn⟩
theorem Hg.add (o : Hg g H N h b a s k T n) (x : Blk) : Hg g (H ++ [x]) (fun y => N y ∨ y = H.length) h b a s k T n :=
  have hl := get_lt o.cell
  ⟨(o.bg.add x).less fun y hy => by
    rcases hy with (hy | hy) | hy
    · exact .inl (.inl hy)
    · exact .inr hy
    · exact .inl (.inr hy), by rw [app_lt hl]; exact o.cell, fun hh => hh.elim o.nN fun e => by omega, o.nn⟩
theorem Hg.less (o : Hg g H N h b a s k T n) {N' : Nat → Prop} (hN : ∀ x, N' x → N x) : Hg g H N' h b a s k T n := ⟨o.bg.less fun x hx => hx.elim (fun e => .inl (hN x e)) .inr, o.cell, fun hh => o.nN (hN h hh), o.nn⟩

theorem Hg.command (o : Hg g H N h b a s k T n) (hT : T < 999999) (c : Int) : ∃ H', bus_Bus_Command (some (b, 0)) c H = some ((), H') ∧ Hg g H' N h b a (k.command a s c).1 (k.command a s c).2 (T + 1) n ∧ Keep (fun x => ¬ N x) H H' := by
  obtain ⟨H', e1, e2, e3⟩ := o.bg.command hT c
  exact ⟨H', e1, o.step e2 e3 (by omega), hoK e3⟩
theorem Hg.address (o : Hg g H N h b a s k T n) (hT : T < 999999) (x : UInt8) : ∃ H', bus_Bus_Address (some (b, 0)) ((x.toNat : Nat) : Int) H = some ((), H') ∧ Hg g H' N h b a (k.address a s x).1 (k.address a s x).2 (T + 1) n ∧ Keep (fun x => ¬ N x) H H' := by
  obtain ⟨H', e1, e2, e3⟩ := o.bg.address hT x
  exact ⟨H', e1, o.step e2 e3 (by omega), hoK e3⟩
theorem Hg.inn (o : Hg g H N h b a s k T n) (hT : T < 999999) (x : UInt8) : ∃ H', bus_Bus_In (some (b, 0)) ((x.toNat : Nat) : Int) H = some ((), H') ∧ Hg g H' N h b a s (k.inF a x) (T + 1) n ∧ Keep (fun x => ¬ N x) H H' := by
  obtain ⟨H', e1, e2, e3⟩ := o.bg.inn hT x
  exact ⟨H', e1, o.step e2 e3 (by omega), hoK e3⟩
theorem Hg.out (o : Hg g H N h b a s k T n) (hT : T < 999999) : ∃ H', bus_Bus_Out (some (b, 0)) H = some ((k.outF.1, ()), H') ∧ Hg g H' N h b a s k.outF.2 (T + 1) n ∧ Keep (fun x => ¬ N x) H H' := by
  obtain ⟨H', e1, e2, e3⟩ := o.bg.out hT
  exact ⟨H', e1, o.step e2 e3 (by omega), hoK e3⟩

/-- It waits until the chip is ready. -/
theorem Hg.wait (o : Hg g H N h b a s k T n) (hT : T < 999999) : ∃ H' n', host_Host_wait (some (h, 0)) H = some ((0, ()), H') ∧ Hg g H' N h b a s { k with busy := 0 } (T + 1) n' ∧ n + 1 ≤ n' ∧ Keep (fun x => ¬ N x) H H' := by
  have hbz := o.good.busy
  have hnn := o.nn
  have hdid := o.wf.did
  have hb0 : k.busy - (k.busy - 1) - 1 = 0 := by omega
  obtain ⟨y, G, l1, rfl, l2, l3⟩ := loop_rise (step := host_Host_wait.s1 (some (h, 0))) (k.busy - 1) (fun i t G => t = ((i : Int), ()) ∧ Hg g G N h b a s { k with busy := k.busy - i } (T + 1) (n + i) ∧ Keep (fun x => ¬ N x) H G)
    (fun x G => x = .inr (0, ()) ∧ (∃ n', Hg g G N h b a s { k with busy := 0 } (T + 1) n' ∧ n + 1 ≤ n') ∧ Keep (fun x => ¬ N x) H G)
    (by
      rintro i _ G hi ⟨rfl, q, kq⟩
      have w1 := wr1_of (o := 4) (c := .int .i64 ((n + i + 1 : Nat) : Int)) q.cell (by decide) (by simp [hoC])
      have kp : Keep (fun x => x = h) G (G.set h (.cells (hoC g b (n + i + 1)) .exact)) := Keep.set _ _ _ rfl
      have q2 : Bg (G.set h (.cells (hoC g b (n + i + 1)) .exact)) (hoL N h) b a s { k with busy := k.busy - i } (T + 1) := q.bg.far kp fun x hx => .inr hx
      have w1' : wr G h 4 [.int .i64 ((n + i + 1 : Nat) : Int)] = some (G.set h (.cells (hoC g b (n + i + 1)) .exact)) := w1
      have rb2 : rdP (G.set h (.cells (hoC g b (n + i + 1)) .exact)) h 0 = some (some (b, 0)) := rdP_of (set_get (get_lt q.cell)) rfl
      obtain ⟨G2, e1, e2, e3⟩ := q2.ready
      have hp : (({ k with busy := k.busy - i } : Bs).poll) = { k with busy := k.busy - (i + 1) } := by
        show ({ k with busy := k.busy - i - 1 } : Bs) = _
        rw [show k.busy - i - 1 = k.busy - (i + 1) by omega]
      rw [hp] at e1 e2
      have hd : decide (({ k with busy := k.busy - (i + 1) } : Bs).busy = 0) = false := decide_eq_false (by show ¬ k.busy - (i + 1) = 0; omega)
      rw [hd] at e1
      refine .inl ⟨(((i + 1 : Nat) : Int), ()), G2, ?_, rfl, ⟨e2, e3.get (set_get (get_lt q.cell)) fun hh => hh (.inr rfl), o.nN, by omega⟩, (kq.trans (kp.mono fun x hx hn => o.nN (hx ▸ hn))).trans (hoK e3)⟩
      unfold host_Host_wait.s1
      have es : IntKind.wrap .i64 (((n + i : Nat) : Int) + 1) = ((n + i + 1 : Nat) : Int) := wrap_succ (by omega)
      simp only [decide_eq_true (show (i : Int) < 64 by omega), cond_t, bind_some, Nat.zero_add, q.rn, es, w1', rb2, e1, cond_f, wrap_succ (show i < 9223372036854775807 by omega)])
    (by
      rintro _ G ⟨rfl, q, kq⟩
      have w1 := wr1_of (o := 4) (c := .int .i64 ((n + (k.busy - 1) + 1 : Nat) : Int)) q.cell (by decide) (by simp [hoC])
      have kp : Keep (fun x => x = h) G (G.set h (.cells (hoC g b (n + (k.busy - 1) + 1)) .exact)) := Keep.set _ _ _ rfl
      have q2 : Bg (G.set h (.cells (hoC g b (n + (k.busy - 1) + 1)) .exact)) (hoL N h) b a s { k with busy := k.busy - (k.busy - 1) } (T + 1) := q.bg.far kp fun x hx => .inr hx
      have w1' : wr G h 4 [.int .i64 ((n + (k.busy - 1) + 1 : Nat) : Int)] = some (G.set h (.cells (hoC g b (n + (k.busy - 1) + 1)) .exact)) := w1
      have rb2 : rdP (G.set h (.cells (hoC g b (n + (k.busy - 1) + 1)) .exact)) h 0 = some (some (b, 0)) := rdP_of (set_get (get_lt q.cell)) rfl
      obtain ⟨G2, e1, e2, e3⟩ := q2.ready
      have hp : (({ k with busy := k.busy - (k.busy - 1) } : Bs).poll) = { k with busy := 0 } := by
        show ({ k with busy := k.busy - (k.busy - 1) - 1 } : Bs) = _
        rw [hb0]
      rw [hp] at e1 e2
      have hd : decide (({ k with busy := 0 } : Bs).busy = 0) = true := rfl
      rw [hd] at e1
      refine ⟨.inr (0, ()), G2, ?_, rfl, ⟨n + (k.busy - 1) + 1, ⟨e2, e3.get (set_get (get_lt q.cell)) fun hh => hh (.inr rfl), o.nN, by omega⟩, by omega⟩, (kq.trans (kp.mono fun x hx hn => o.nN (hx ▸ hn))).trans (hoK e3)⟩
      unfold host_Host_wait.s1
      have es : IntKind.wrap .i64 (((n + (k.busy - 1) : Nat) : Int) + 1) = ((n + (k.busy - 1) + 1 : Nat) : Int) := wrap_succ (by omega)
      simp only [decide_eq_true (show ((k.busy - 1 : Nat) : Int) < 64 by omega), cond_t, bind_some, Nat.zero_add, q.rn, es, w1', rb2, e1])
    (y := (((0 : Nat) : Int), ())) ⟨rfl, by
      have : ({ k with busy := k.busy - 0 } : Bs) = k := rfl
      rw [this]
      exact o.le (by omega) (by omega), Keep.refl _ _⟩
  obtain ⟨n', l4, l5⟩ := l2
  refine ⟨G, n', ?_, l4, l5, l3⟩
  have l1' : loopW (host_Host_wait.s1 (some (h, 0))) (0, ()) H = some (.inr (0, ()), G) := l1
  unfold host_Host_wait
  simp only [l1', bind_some, sum1]

/-- Bytes of an address, one behind the other. -/
def Bs.addrs (a : NdA) : List UInt8 → Nd → Bs → Nd × Bs
  | [], s, k => (s, k)
  | x :: r, s, k => Bs.addrs a r (k.address a s x).1 (k.address a s x).2
theorem Hg.send (o : Hg g H N h b a s k T n) (row m : Nat) (hT : T + m < 999999) (hr : row < 4294967296) (hm : m ≤ 8) : ∃ H', host_Host_send (some (h, 0)) (row : Int) (m : Int) H = some ((), H') ∧ Hg g H' N h b a (Bs.addrs a (leB m row) s k).1 (Bs.addrs a (leB m row) s k).2 (T + m) n ∧ Keep (fun x => ¬ N x) H H' := by
  obtain ⟨y, G, l1, l2, l3⟩ := loop_rise (step := host_Host_send.s1 (some (h, 0)) (m : Int)) m (fun i t G => ∃ (q : Nat) (s' : Nd) (k' : Bs), q < 4294967296 ∧ t = ((q : Int), (i : Int), ()) ∧ Hg g G N h b a s' k' (T + i) n ∧ Bs.addrs a (leB (m - i) q) s' k' = Bs.addrs a (leB m row) s k ∧ Keep (fun x => ¬ N x) H G)
    (fun x G => Hg g G N h b a (Bs.addrs a (leB m row) s k).1 (Bs.addrs a (leB m row) s k).2 (T + m) n ∧ Keep (fun x => ¬ N x) H G)
    (by
      rintro i _ G hi ⟨q, s', k', hq, rfl, o', e, kq⟩
      obtain ⟨G', c1, c2, c3⟩ := o'.address (by omega) (UInt8.ofNat (q % 256))
      have hu : (((UInt8.ofNat (q % 256)).toNat : Nat) : Int) = IntKind.wrap .u8 (q : Int) := by
        rw [wrap_u8]
        have : (UInt8.ofNat (q % 256)).toNat = q % 256 := by simp
        rw [this]; omega
      rw [hu] at c1
      have hf : Int.fdiv (q : Int) (2 ^ (min (Int.toNat 8) (IntKind.bits .i64))) = ((q / 256 : Nat) : Int) := by
        rw [show (2 : Int) ^ (min (Int.toNat 8) (IntKind.bits .i64)) = 256 from rfl, Int.fdiv_eq_ediv_of_nonneg _ (by decide)]
        omega
      refine .inl ⟨(((q / 256 : Nat) : Int), ((i + 1 : Nat) : Int), ()), G', ?_, q / 256, _, _, by omega, rfl, (show Hg g G' N h b a _ _ (T + ((i + 1 : Nat) : Int)) n by rw [show T + ((i + 1 : Nat) : Int) = T + (i : Int) + 1 by omega]; exact c2), ?_, kq.trans c3⟩
      · unfold host_Host_send.s1
        simp only [decide_eq_true (show (i : Int) < (m : Int) by omega), cond_t, bind_some, o'.rb, c1, hf, wrap_succ (show i < 9223372036854775807 by omega)]
      · rw [← e, show m - i = (m - (i + 1)) + 1 by omega]
        rfl)
    (by
      rintro _ G ⟨q, s', k', hq, rfl, o', e, kq⟩
      refine ⟨(), G, ?_, ?_, kq⟩
      · unfold host_Host_send.s1
        simp only [decide_eq_false (show ¬ (m : Int) < (m : Int) by omega), cond_f]
      · rw [← e, Nat.sub_self]
        exact o')
    (y := ((row : Int), ((0 : Nat) : Int), ())) ⟨row, s, k, hr, rfl, (show Hg g H N h b a s k (T + ((0 : Nat) : Int)) n by rw [show T + ((0 : Nat) : Int) = T by omega]; exact o), rfl, Keep.refl _ _⟩
  have l1' : loopW (host_Host_send.s1 (some (h, 0)) (m : Int)) ((row : Int), 0, ()) H = some (y, G) := l1
  refine ⟨G, ?_, l2, l3⟩
  unfold host_Host_send
  simp only [l1', bind_some]

/-- Whether the last action failed. -/
theorem Hg.failed (o : Hg g H N h b a s k T n) (hT : T + 2 < 999999) (hb : k.busy = 0) : ∃ H', host_Host_failed (some (h, 0)) H = some ((k.fail, ()), H') ∧ Hg g H' N h b a s { k with asked := false } (T + 2) n ∧ Keep (fun x => ¬ N x) H H' := by
  obtain ⟨G, e1, e2, e3⟩ := o.command (by omega) 112
  have hc : k.command a s 112 = (s, { k with asked := true }) := rfl
  rw [hc] at e2
  obtain ⟨G2, f1, f2, f3⟩ := e2.out (by omega)
  have ho : ({ k with asked := true } : Bs).outF = (cond k.fail 193 192, { k with asked := false }) := by
    have hp : ({ k with asked := true } : Bs).stat = cond k.fail 193 192 := by
      unfold Bs.stat Bs.poll
      rw [hb]; rfl
    unfold Bs.outF
    rw [show ({ k with asked := true } : Bs).asked = true from rfl, cond_t, hp]
    have : ({ ({ k with asked := true } : Bs) with asked := false } : Bs).poll = { k with asked := false } := poll_zero (k := { k with asked := false }) hb
    rw [this]
  rw [ho] at f1 f2
  refine ⟨G2, ?_, by rw [show T + 2 = T + 1 + 1 by omega]; exact f2, e3.trans f3⟩
  unfold host_Host_failed
  simp only [bind_some, o.rb, e1, e2.rb, f1]
  have z1 : bitsI .and .u8 193 1 = 1 := by decide
  have z0 : bitsI .and .u8 192 1 = 0 := by decide
  cases k.fail with
  | true => rw [cond_t, z1]; rfl
  | false => rw [cond_f, z0]; rfl
theorem bus_chip (o : Hg g H N h b a s k T n) : bus_Bus_Chip (some (b, 0)) H = some ((some (a.c, 0), ()), H) := by
  obtain ⟨⟨⟨sa, si, hx⟩, _, _⟩, _, _⟩ := o
  unfold bus_Bus_Chip
  simp only [Option.isNone_some, cond_f, bind_some, hx.rp]
theorem Hg.why (o : Hg g H N h b a s k T n) (e : Int) : host_Host_why (some (h, 0)) e H = some ((if s.off = true then 51 else e, ()), H) := by
  unfold host_Host_why
  simp only [bind_some, o.rb, bus_chip o, nand_off o.bg.nd]
  cases s.off <;> rfl
/-- Whether anything can be begun. -/
theorem Hg.begin (o : Hg ((a.B : Int), (a.P : Int), (a.S : Int), ()) H N h b a s k T n) (x1 x2 : Int) : ∃ r, host_Host_begin (some (h, 0)) x1 x2 H = some ((r, s.inE a x1 x2, ()), H) ∧ (s.inE a x1 x2 = 0 → r = IntKind.wrap .i64 (IntKind.wrap .i64 (x1 * (a.P : Int)) + x2)) := by
  have hrow : host_Host_row (some (h, 0)) x1 x2 H = some ((IntKind.wrap .i64 (IntKind.wrap .i64 (x1 * (a.P : Int)) + x2), decide (0 ≤ x1 ∧ x1 < (a.B : Int) ∧ 0 ≤ x2 ∧ x2 < (a.P : Int)), ()), H) := by
    unfold host_Host_row
    simp only [bind_some, Nat.zero_add, o.rP, o.rB]
    by_cases h1 : 0 ≤ x1
    · simp only [decide_eq_true h1, cond_t]
      by_cases h2 : x1 < (a.B : Int)
      · simp only [decide_eq_true h2, cond_t]
        by_cases h3 : 0 ≤ x2
        · simp only [decide_eq_true h3, cond_t]
          by_cases h4 : x2 < (a.P : Int)
          · rw [decide_eq_true h4, decide_eq_true ⟨h1, h2, h3, h4⟩]
          · rw [decide_eq_false h4, decide_eq_false fun hh => h4 hh.2.2.2]
        · simp only [decide_eq_false h3, cond_f]
          rw [decide_eq_false fun hh => h3 hh.2.2.1]
      · simp only [decide_eq_false h2, cond_f]
        rw [decide_eq_false fun hh => h2 hh.2.1]
    · simp only [decide_eq_false h1, cond_f]
      rw [decide_eq_false fun hh => h1 hh.1]
  unfold host_Host_begin Nd.inE
  simp only [Option.isNone_some, cond_f, hrow, bind_some, o.rb, bus_chip o, nand_off o.bg.nd]
  cases hoff : s.off with
  | true => exact ⟨0, rfl, fun hh => by rw [if_pos rfl] at hh; exact absurd hh (by decide)⟩
  | false =>
    simp only [cond_f, Bool.false_eq_true, if_false]
    by_cases hin : 0 ≤ x1 ∧ x1 < (a.B : Int) ∧ 0 ≤ x2 ∧ x2 < (a.P : Int)
    · rw [decide_eq_true hin, if_neg (show ¬ (x1 < 0 ∨ (a.B : Int) ≤ x1 ∨ x2 < 0 ∨ (a.P : Int) ≤ x2) by omega)]
      exact ⟨_, rfl, fun _ => rfl⟩
    · rw [decide_eq_false hin, if_pos (show x1 < 0 ∨ (a.B : Int) ≤ x1 ∨ x2 < 0 ∨ (a.P : Int) ≤ x2 by omega)]
      exact ⟨0, rfl, fun hh => absurd hh (by decide)⟩
end
end Ev
