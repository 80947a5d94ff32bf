/- The bus: how it stands in the heap; what its small functions do. -/
import Derived.Test.YtfbecginbilemaaGBus
import Derived.Test.YtfbecginbilemaaSNandT
import Derived.Test.YtfbecginbilemaaSCode
import Derived.Test.YtfbecginbilemaaSCrc
import Derived.Test.YtfbecginbilemaaSCalm
namespace Ev
open Go (IntKind)

structure Bs where
  st : Nat
  cmd : Int
  want : Int
  addr : Bytes
  inn : Bytes
  out : Bytes
  at' : Nat
  busy : Nat
  fail : Bool
  asked : Bool
  wrong : Int

def Bs.cells (a : NdA) (k : Bs) (sa si : Sl) : List C := [.ptr (some (a.c, 0)), .int .i64 k.st, .int .u8 k.cmd, .int .i64 k.want, .sl 1 sa, .sl 1 si, .str k.out, .int .i64 k.at', .int .i64 k.busy, .bool k.fail, .bool k.asked, .int .i64 k.wrong]

structure Bx (H : Heap) (L : Nat → Prop) (b : Nat) (a : NdA) (s : Nd) (k : Bs) (sa si : Sl) : Prop where
  nd : NdAt H a s
  cell : H[b]? = some (.cells (k.cells a sa si) .exact)
  ga : Grown H 1 sa (cellsOf k.addr)
  gi : Grown H 1 si (cellsOf k.inn)
  not : ¬ a.own b
  na : ∀ x, sa.p = some x → x.1 ≠ b ∧ ¬ a.own x.1 ∧ ¬ L x.1
  ni : ∀ x, si.p = some x → x.1 ≠ b ∧ ¬ a.own x.1 ∧ ¬ L x.1
  ai : ∀ x y, sa.p = some x → si.p = some y → x.1 ≠ y.1
  lo : ∀ x, a.own x → ¬ L x
  lb : ¬ L b
  fl : ∀ x, L x → x < H.length
  sm : 0 ≤ k.wrong ∧ k.wrong < 1000000 ∧ k.at' < 1000000 ∧ k.busy < 1000000

section
variable {H : Heap} {L : Nat → Prop} {b : Nat} {a : NdA} {s : Nd} {k : Bs} {sa si : Sl}

theorem Bx.rp (h : Bx H L b a s k sa si) : rdP H b 0 = some (some (a.c, 0)) := rdP_of h.cell rfl
theorem Bx.rst (h : Bx H L b a s k sa si) : rdI .i64 H b 1 = some (k.st : Int) := rdI_of h.cell rfl
theorem Bx.rcmd (h : Bx H L b a s k sa si) : rdI .u8 H b 2 = some k.cmd := rdI_of h.cell rfl
theorem Bx.rwant (h : Bx H L b a s k sa si) : rdI .i64 H b 3 = some k.want := rdI_of h.cell rfl
theorem Bx.raddr (h : Bx H L b a s k sa si) : rdSl 1 H b 4 = some sa := rdSl_of h.cell rfl
theorem Bx.rinn (h : Bx H L b a s k sa si) : rdSl 1 H b 5 = some si := rdSl_of h.cell rfl
theorem Bx.rout (h : Bx H L b a s k sa si) : rdS H b 6 = some k.out := rdS_of h.cell rfl
theorem Bx.rat (h : Bx H L b a s k sa si) : rdI .i64 H b 7 = some (k.at' : Int) := rdI_of h.cell rfl
theorem Bx.rbusy (h : Bx H L b a s k sa si) : rdI .i64 H b 8 = some (k.busy : Int) := rdI_of h.cell rfl
theorem Bx.rfail (h : Bx H L b a s k sa si) : rdB H b 9 = some k.fail := rdB_of h.cell rfl
theorem Bx.rasked (h : Bx H L b a s k sa si) : rdB H b 10 = some k.asked := rdB_of h.cell rfl
theorem Bx.rwrong (h : Bx H L b a s k sa si) : rdI .i64 H b 11 = some k.wrong := rdI_of h.cell rfl
theorem Bx.alen (h : Bx H L b a s k sa si) : sa.len = k.addr.length := by have := h.ga.len; rw [cells_len] at this; omega
theorem Bx.ilen (h : Bx H L b a s k sa si) : si.len = k.inn.length := by have := h.gi.len; rw [cells_len] at this; omega

/-- Other blocks turn, not these. -/
theorem Bx.keep (h : Bx H L b a s k sa si) {F : Nat → Prop} {H' : Heap} (kp : Keep F H H') (hF : ∀ x, x < H.length → F x → False) : Bx H' L b a s k sa si where
  nd := h.nd.keep kp fun j hj hf => hF j (h.nd.own_lt hj) hf
  cell := kp.get h.cell fun hf => hF b (get_lt h.cell) hf
  ga := h.ga.mono fun x hx => kp.same _ (h.ga.lt hx) fun hf => hF _ (h.ga.lt hx) hf
  gi := h.gi.mono fun x hx => kp.same _ (h.gi.lt hx) fun hf => hF _ (h.gi.lt hx) hf
  not := h.not
  na := h.na
  ni := h.ni
  ai := h.ai
  lo := h.lo
  lb := h.lb
  fl := fun x hx => Nat.lt_of_lt_of_le (h.fl x hx) kp.len
  sm := h.sm
theorem Bx.push (h : Bx H L b a s k sa si) (x : Blk) : Bx (H ++ [x]) L b a s k sa si := h.keep (Keep.push (fun _ => False) H x) fun _ _ => id
/-- The chip does something. -/
theorem Bx.chip (h : Bx H L b a s k sa si) {H' : Heap} {s' : Nd} (n : NdAt H' a s') (kp : Keep a.fp H H') : Bx H' L b a s' k sa si where
  nd := n
  cell := kp.get h.cell fun hf => h.not (.inl hf)
  ga := h.ga.mono fun x hx => kp.same _ (h.ga.lt hx) fun hf => (h.na x hx).2.1 (.inl hf)
  gi := h.gi.mono fun x hx => kp.same _ (h.gi.lt hx) fun hf => (h.ni x hx).2.1 (.inl hf)
  not := h.not
  na := h.na
  ni := h.ni
  ai := h.ai
  lo := h.lo
  lb := h.lb
  fl := fun x hx => Nat.lt_of_lt_of_le (h.fl x hx) kp.len
  sm := h.sm
/-- A field is written. -/
theorem Bx.wr (h : Bx H L b a s k sa si) {j : Nat} {v : C} (k' : Bs) (hj : j < 12) (hc : (k.cells a sa si).set j v = k'.cells a sa si) (h1 : k'.addr = k.addr) (h2 : k'.inn = k.inn) (sm : 0 ≤ k'.wrong ∧ k'.wrong < 1000000 ∧ k'.at' < 1000000 ∧ k'.busy < 1000000) :
    ∃ H', Ev.wr H b j [v] = some H' ∧ Bx H' L b a s k' sa si ∧ Keep (fun x => x = b) H H' := by
  have kp : Keep (fun x => x = b) H (H.set b (.cells ((k.cells a sa si).set j v) .exact)) := Keep.set _ _ _ rfl
  refine ⟨_, wr1_of h.cell (by decide) (by simpa [Bs.cells] using hj), ?_, kp⟩
  exact { nd := h.nd.keep kp fun x hx e => h.not (e ▸ hx), cell := by rw [set_get (get_lt h.cell), hc], ga := by rw [h1]; exact h.ga.mono fun x hx => kp.same _ (h.ga.lt hx) (h.na x hx).1, gi := by rw [h2]; exact h.gi.mono fun x hx => kp.same _ (h.gi.lt hx) (h.ni x hx).1,
          not := h.not, na := h.na, ni := h.ni, ai := h.ai, lo := h.lo, lb := h.lb, fl := fun x hx => Nat.lt_of_lt_of_le (h.fl x hx) kp.len, sm := sm }

/-- A bus in the heap. -/
def BusAt (H : Heap) (L : Nat → Prop) (b : Nat) (a : NdA) (s : Nd) (k : Bs) : Prop := ∃ sa si, Bx H L b a s k sa si
theorem low {L : Nat → Prop} {F : Nat → Prop} {A B : Heap} (h : Keep F A B) (hF : ∀ x, F x → ¬ L x) : Keep (fun x => ¬ L x) A B := h.mono hF
theorem Bx.lowb (h : Bx H L b a s k sa si) {H' : Heap} (kp : Keep (fun x => x = b) H H') : Keep (fun x => ¬ L x) H H' := kp.mono fun x e => e ▸ h.lb
theorem Bx.lowc (h : Bx H L b a s k sa si) {H' : Heap} (kp : Keep a.fp H H') : Keep (fun x => ¬ L x) H H' := kp.mono fun x e => h.lo x (.inl e)

/-! The small functions. -/
def Bs.violate (k : Bs) : Bs := { k with wrong := k.wrong + 1 }
theorem bus_violateB (h : Bx H L b a s k sa si) (hw : k.wrong < 999999) : ∃ H', bus_Bus_violate (some (b, 0)) H = some ((), H') ∧ Bx H' L b a s k.violate sa si ∧ Keep (fun x => x = b) H H' := by
  have sm := h.sm
  obtain ⟨H', w1, w2, w3⟩ := h.wr k.violate (j := 11) (v := .int .i64 (k.wrong + 1)) (by decide) rfl rfl rfl (by show 0 ≤ k.wrong + 1 ∧ k.wrong + 1 < 1000000 ∧ k.at' < 1000000 ∧ k.busy < 1000000; omega)
  refine ⟨H', ?_, w2, w3⟩
  unfold bus_Bus_violate
  have ew : IntKind.wrap .i64 (k.wrong + 1) = k.wrong + 1 := wrap_i64 (by omega) (by omega)
  simp only [bind_some, Nat.zero_add, h.rwrong, ew, w1]
theorem bus_violate (h : Bx H L b a s k sa si) (hw : k.wrong < 999999) : ∃ H', bus_Bus_violate (some (b, 0)) H = some ((), H') ∧ Bx H' L b a s k.violate sa si ∧ Keep (fun x => ¬ L x) H H' := by
  obtain ⟨H', h1, h2, h3⟩ := bus_violateB h hw
  exact ⟨H', h1, h2, h.lowb h3⟩
theorem bus_ready (h : Bx H L b a s k sa si) : bus_Bus_ready (some (b, 0)) H = some ((decide (k.busy = 0), ()), H) := by
  unfold bus_Bus_ready
  have : decide ((k.busy : Int) = 0) = decide (k.busy = 0) := decide_eq_decide.2 (by omega)
  simp only [bind_some, Nat.zero_add, h.rbusy, this]
def Bs.tell (k : Bs) (t : Bytes) : Bs := { k with st := 4, out := t, at' := 0 }
theorem bus_tell (h : Bx H L b a s k sa si) (t : Bytes) : ∃ H', bus_Bus_tell (some (b, 0)) t H = some ((), H') ∧ Bx H' L b a s (k.tell t) sa si ∧ Keep (fun x => ¬ L x) H H' := by
  have sm := h.sm
  obtain ⟨H1, w1, w2, w3⟩ := h.wr { k with st := 4 } (j := 1) (v := .int .i64 4) (by decide) rfl rfl rfl sm
  obtain ⟨H2, x1, x2, x3⟩ := w2.wr { k with st := 4, out := t } (j := 6) (v := .str t) (by decide) rfl rfl rfl sm
  obtain ⟨H3, y1, y2, y3⟩ := x2.wr (k.tell t) (j := 7) (v := .int .i64 0) (by decide) rfl rfl rfl (by show 0 ≤ k.wrong ∧ k.wrong < 1000000 ∧ (0 : Nat) < 1000000 ∧ k.busy < 1000000; omega)
  refine ⟨H3, ?_, y2, ((h.lowb w3).trans (w2.lowb x3)).trans (x2.lowb y3)⟩
  unfold bus_Bus_tell
  simp only [bind_some, Nat.zero_add, w1, x1, y1]
def Bs.reset (k : Bs) : Bs := ⟨0, 0, 0, [], [], [], 0, 3, false, false, k.wrong⟩
theorem bus_reset (h : Bx H L b a s k sa si) : ∃ H', bus_Bus_reset (some (b, 0)) H = some ((), H') ∧ Bx H' L b a s k.reset ⟨none, 0, 0⟩ ⟨none, 0, 0⟩ ∧ Keep (fun x => ¬ L x) H H' := by
  have sm := h.sm
  have hb : (Blk.cells (setL (k.cells a sa si) 0 [.ptr (some (a.c, 0)), .int .i64 0, .int .u8 0, .int .i64 0, .sl 1 ⟨none, 0, 0⟩, .sl 1 ⟨none, 0, 0⟩, .str [], .int .i64 0, .int .i64 3, .bool false, .bool false, .int .i64 k.wrong]) .exact) = .cells (k.reset.cells a ⟨none, 0, 0⟩ ⟨none, 0, 0⟩) .exact := rfl
  have kp : Keep (fun x => x = b) H (H.set b (.cells (k.reset.cells a ⟨none, 0, 0⟩ ⟨none, 0, 0⟩) .exact)) := Keep.set _ _ _ rfl
  have w := wr_of (o := 0) (new := [.ptr (some (a.c, 0)), .int .i64 0, .int .u8 0, .int .i64 0, .sl 1 ⟨none, 0, 0⟩, .sl 1 ⟨none, 0, 0⟩, .str [], .int .i64 0, .int .i64 3, .bool false, .bool false, .int .i64 k.wrong]) h.cell (by decide) (by simp [Bs.cells])
  rw [hb] at w
  refine ⟨_, ?_, ?_, h.lowb kp⟩
  · unfold bus_Bus_reset
    simp only [bind_some, Nat.zero_add, h.rp, h.rwrong, w]
  · exact { nd := h.nd.keep kp fun x hx e => h.not (e ▸ hx), cell := set_get (get_lt h.cell), ga := Grown.ni _ 1, gi := Grown.ni _ 1, not := h.not, na := fun x hx => (by cases hx), ni := fun x hx => (by cases hx), ai := fun x y hx => (by cases hx), lo := h.lo, lb := h.lb, fl := fun x hx => Nat.lt_of_lt_of_le (h.fl x hx) kp.len, sm := (by show 0 ≤ k.wrong ∧ k.wrong < 1000000 ∧ (0 : Nat) < 1000000 ∧ (3 : Nat) < 1000000; omega) }
def wantsN (c : Int) : Int := if c = 0 ∨ c = 128 then 5 else if c = 96 ∨ c = 160 ∨ c = 165 then 3 else 1
theorem wants_eq (c : Int) : bus_wants c = some (wantsN c, ()) := by
  unfold bus_wants bus_wants.on wantsN
  by_cases h0 : c = 0
  · simp [h0]
  · by_cases h1 : c = 128
    · simp [h1]
    · by_cases h2 : c = 96
      · simp [h2]
      · by_cases h3 : c = 160
        · simp [h3]
        · by_cases h4 : c = 165
          · simp [h4]
          · simp [h0, h1, h2, h3, h4]

/-- The page that an address names; the column. -/
def Bs.row (k : Bs) : Nat := valB (k.addr.drop (k.addr.length - 3))
def Bs.col (k : Bs) : Nat := valB (k.addr.take 2)
theorem byte_at (h : Bx H L b a s k sa si) {i : Nat} (hi : i < k.addr.length) : ∃ x : Nat × Nat, sa.p = some x ∧ x.2 = 0 ∧ rdI .u8 H x.1 i = some ((k.addr[i].toNat : Nat) : Int) := by
  have hal := h.alen
  cases hp : sa.p with
  | none => have := h.ga.nil hp; omega
  | some x =>
    obtain ⟨e, hb⟩ := h.ga.blk x hp
    have hc : (cellsOf k.addr)[i]? = some (.int .u8 ((k.addr[i].toNat : Nat) : Int)) := by simp [cellsOf, hi]
    rcases hb with hb | hb
    · exact ⟨x, rfl, e, rdI_of hb hc⟩
    · exact ⟨x, rfl, e, rdI_of hb hc⟩
theorem valB3 (t : Bytes) (h : t.length = 3) : valB t < 16777216 := by have := valB_lt t; rw [h] at this; simpa using this
theorem row_lt (k : Bs) (h : 3 ≤ k.addr.length) : k.row < 16777216 := valB3 _ (by rw [List.length_drop]; omega)
theorem col_lt (k : Bs) : k.col < 65536 := by
  have := valB_lt (k.addr.take 2)
  have h2 : 256 ^ (k.addr.take 2).length ≤ 256 ^ 2 := Nat.pow_le_pow_right (by decide) (by rw [List.length_take]; omega)
  unfold Bs.col
  have : (256 : Nat) ^ 2 = 65536 := rfl
  omega
theorem or_i64 {x y : Nat} (n : Nat) (hy : y < 2 ^ n) (hx : x * 2 ^ n + y < 9223372036854775808) : bitsI .or .i64 ((x * 2 ^ n : Nat) : Int) (y : Int) = ((x * 2 ^ n + y : Nat) : Int) := by
  simp only [bitsI]
  have e1 : (BitVec.ofInt IntKind.i64.bits ((x * 2 ^ n : Nat) : Int)).toNat = x * 2 ^ n := ofInt_nat _ _ (by show _ < 2 ^ 64; omega)
  have e2 : (BitVec.ofInt IntKind.i64.bits (y : Int)).toNat = y := ofInt_nat _ _ (by show _ < 2 ^ 64; omega)
  rw [BitVec.toNat_or, e1, e2, or_add hy, wrap_i64 (by omega) (by omega)]
theorem sub_tail {t : Sl} {n : Nat} (hc : t.cap = t.len) (hn : n ≤ t.len) : Sl.sub 1 t ((t.len - n : Nat) : Int) (t.len : Int) (t.cap : Int) = some ⟨t.p.map fun x => (x.1, x.2 + (t.len - n)), n, n⟩ := by
  unfold Sl.sub
  have : decide (0 ≤ ((t.len - n : Nat) : Int) ∧ ((t.len - n : Nat) : Int) ≤ (t.len : Int) ∧ (t.len : Int) ≤ (t.cap : Int) ∧ (t.cap : Int) ≤ (t.cap : Int)) = true := decide_eq_true (by omega)
  rw [this, cond_t]
  simp only [Int.toNat_natCast, Nat.mul_one, hc]
  congr 2 <;> omega
theorem bus_row (h : Bx H L b a s k sa si) (h3 : 3 ≤ k.addr.length) (hl : k.addr.length < 1000000) : bus_Bus_row (some (b, 0)) H = some (((k.row : Int), ()), H) := by
  have hal := h.alen
  have hcap := h.ga.cap
  obtain ⟨x, hx, hx2, _⟩ := byte_at h (i := 0) (by omega)
  have ew : IntKind.wrap .i64 ((sa.len : Int) - 3) = ((sa.len - 3 : Nat) : Int) := by rw [wrap_i64 (by omega) (by omega)]; omega
  have hsub := sub_tail hcap (n := 3) (by omega)
  rw [hx] at hsub
  simp only [Option.map_some, hx2, Nat.zero_add] at hsub
  have hd : (k.addr.drop (k.addr.length - 3)).length = 3 := by rw [List.length_drop]; omega
  have hloop : loopW (bus_Bus_row.s1 ⟨some (x.1, sa.len - 3), 3, 3⟩) (0, IntKind.wrap .i64 (((3 : Nat) : Int) - 1), ()) H = some (((k.row : Int), ()), H) := by
    refine loop_for' 3 (fun i => (((valB ((k.addr.drop (k.addr.length - 3)).drop (3 - i)) : Nat) : Int), (3 : Int) - 1 - (i : Int), ())) (fun _ => H) (by rw [Nat.sub_zero, List.drop_eq_nil_of_le (by omega)]; rfl) rfl ?_ ?_
    · intro i hi
      unfold bus_Bus_row.s1
      have hix : (3 : Int) - 1 - (i : Int) = ((2 - i : Nat) : Int) := by omega
      have hat : Sl.at 1 ⟨some (x.1, sa.len - 3), 3, 3⟩ ((2 - i : Nat) : Int) = some (x.1, (sa.len - 3) + (2 - i)) := by
        rw [at_of (by omega) (by omega), Int.toNat_natCast, Nat.mul_one]
      obtain ⟨y, hy, hy2, hb⟩ := byte_at h (i := (sa.len - 3) + (2 - i)) (by omega)
      rw [hx] at hy
      cases hy
      have hvs := value_step (k.addr.drop (k.addr.length - 3)) (2 - i) (by omega)
      have hge : (k.addr.drop (k.addr.length - 3))[2 - i]'(by omega) = k.addr[(sa.len - 3) + (2 - i)]'(by omega) := by
        rw [List.getElem_drop]; congr 1; omega
      rw [hge, show 2 - i + 1 = 3 - i by omega] at hvs
      have hv3 := valB_lt ((k.addr.drop (k.addr.length - 3)).drop (3 - i))
      have hvl : ((k.addr.drop (k.addr.length - 3)).drop (3 - i)).length = i := by rw [List.length_drop, hd]; omega
      rw [hvl] at hv3
      have hp : 256 ^ i ≤ 65536 := by
        have : 256 ^ i ≤ 256 ^ 2 := Nat.pow_le_pow_right (by decide) (by omega)
        simpa using this
      have hbl := (k.addr[(sa.len - 3) + (2 - i)]'(by omega)).toNat_lt
      have e1 : IntKind.wrap .i64 (((valB ((k.addr.drop (k.addr.length - 3)).drop (3 - i)) : Nat) : Int) * 2 ^ (min (Int.toNat 8) (IntKind.bits .i64))) = ((valB ((k.addr.drop (k.addr.length - 3)).drop (3 - i)) * 2 ^ 8 : Nat) : Int) := by
        rw [show min (Int.toNat 8) (IntKind.bits .i64) = 8 from rfl, wrap_i64 (by omega) (by omega)]; omega
      have e2 : IntKind.wrap .i64 (((k.addr[(sa.len - 3) + (2 - i)]'(by omega)).toNat : Nat) : Int) = (((k.addr[(sa.len - 3) + (2 - i)]'(by omega)).toNat : Nat) : Int) := wrap_i64 (by omega) (by omega)
      have e3 : IntKind.wrap .i64 (((2 - i : Nat) : Int) - 1) = (3 : Int) - 1 - ((i + 1 : Nat) : Int) := by rw [wrap_i64 (by omega) (by omega)]; omega
      simp only [decide_eq_true (show 0 ≤ (3 : Int) - 1 - (i : Int) by omega), cond_t]
      rw [hix, hat, bind_some]
      simp only [hb, bind_some]
      rw [e1, e2, or_i64 8 (by omega) (by omega), e3]
      rw [show 3 - (i + 1) = 2 - i by omega, hvs, Nat.add_comm, Nat.mul_comm]
    · unfold bus_Bus_row.s1
      have hd2 : decide (0 ≤ (3 : Int) - 1 - ((3 : Nat) : Int)) = false := rfl
      simp only [hd2, cond_f, Nat.sub_self, List.drop_zero]
      rfl
  unfold bus_Bus_row
  simp only [bind_some, Nat.zero_add, h.raddr, ew, hsub, hloop]
theorem take2 : ∀ (l : Bytes) (h : 2 ≤ l.length), l.take 2 = [l[0]'(by omega), l[1]'(by omega)]
  | _ :: _ :: _, _ => rfl
theorem bus_column (h : Bx H L b a s k sa si) (h2 : 2 ≤ k.addr.length) : bus_Bus_column (some (b, 0)) H = some (((k.col : Int), ()), H) := by
  have hal := h.alen
  obtain ⟨x, hx, hx2, b0⟩ := byte_at h (i := 0) (by omega)
  obtain ⟨y, hy, _, b1⟩ := byte_at h (i := 1) (by omega)
  rw [hx] at hy
  cases hy
  have hat : ∀ i : Nat, i < 2 → Sl.at 1 sa (i : Int) = some (x.1, i) := by
    intro i hi
    have := at_of (es := 1) (p := x) (len := sa.len) (cap := sa.cap) (i := (i : Int)) (by omega) (by omega)
    rw [hx2, Int.toNat_natCast, Nat.mul_one, Nat.zero_add] at this
    rw [← hx] at this
    exact this
  have a0 := hat 0 (by decide)
  have a1 := hat 1 (by decide)
  have l0 := (k.addr[0]'(by omega)).toNat_lt
  have l1 := (k.addr[1]'(by omega)).toNat_lt
  have ecol : k.col = (k.addr[1]'(by omega)).toNat * 2 ^ 8 + (k.addr[0]'(by omega)).toNat := by
    unfold Bs.col
    rw [take2 k.addr h2, valB, valB, valB]; omega
  have w0 : IntKind.wrap .i64 (((k.addr[0]'(by omega)).toNat : Nat) : Int) = (((k.addr[0]'(by omega)).toNat : Nat) : Int) := wrap_i64 (by omega) (by omega)
  have w1 : IntKind.wrap .i64 (((k.addr[1]'(by omega)).toNat : Nat) : Int) = (((k.addr[1]'(by omega)).toNat : Nat) : Int) := wrap_i64 (by omega) (by omega)
  have w2 : IntKind.wrap .i64 ((((k.addr[1]'(by omega)).toNat : Nat) : Int) * 2 ^ (min (Int.toNat 8) (IntKind.bits .i64))) = (((k.addr[1]'(by omega)).toNat * 2 ^ 8 : Nat) : Int) := by
    rw [show min (Int.toNat 8) (IntKind.bits .i64) = 8 from rfl, wrap_i64 (by omega) (by omega)]; omega
  have hor := or_i64 (x := (k.addr[1]'(by omega)).toNat) (y := (k.addr[0]'(by omega)).toNat) 8 (by omega) (by omega)
  have hcomm : ∀ u v : Int, bitsI .or .i64 u v = bitsI .or .i64 v u := fun u v => by simp only [bitsI]; rw [BitVec.or_comm]
  have a0' : Sl.at 1 sa 0 = some (x.1, 0) := a0
  have a1' : Sl.at 1 sa 1 = some (x.1, 1) := a1
  unfold bus_Bus_column
  simp only [bind_some, Nat.zero_add, h.raddr, a0', b0, a1', b1, w0, w1, w2]
  rw [hcomm, hor, ecol]
end
end Ev
