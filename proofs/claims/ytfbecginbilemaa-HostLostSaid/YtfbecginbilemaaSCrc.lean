/- crc.More and crc.Sum tell the check of bytes. -/
import Derived.Test.YtfbecginbilemaaGCrc
import Derived.Test.YtfbecginbilemaaLp
import Derived.Test.YtfbecginbilemaaCrc
namespace Ev
open Go (IntKind)

def nats (s : Bytes) : List Nat := s.map UInt8.toNat
theorem nats_length (s : Bytes) : (nats s).length = s.length := by simp [nats]
theorem nats_lt {s : Bytes} : ∀ b ∈ nats s, b < 256 := by
  intro b hb
  obtain ⟨x, _, rfl⟩ := List.mem_map.1 hb
  exact x.toNat_lt
theorem nats_append (a b : Bytes) : nats (a ++ b) = nats a ++ nats b := by simp [nats]

/-- The check of bytes behind others, of which it is c. -/
def crcMore (c : Nat) (s : Bytes) : Nat := crun (4294967295 ^^^ c) (nats s) ^^^ 4294967295
theorem crcMore_lt {c : Nat} {s : Bytes} (h : c < 4294967296) : crcMore c s < 4294967296 := xor_lt32 (crun_lt (xor_lt32 (by decide) h) nats_lt) (by decide)
theorem crun_append (c : Nat) (a b : List Nat) : crun c (a ++ b) = crun (crun c a) b := by simp [crun, List.foldl_append]
theorem crcMore_app (a b : Bytes) : crcMore (crcMore 0 a) b = crcMore 0 (a ++ b) := by
  unfold crcMore
  rw [nats_append, crun_append, Nat.xor_zero, Nat.xor_comm (crun _ (nats a)), ← Nat.xor_assoc, Nat.xor_self, Nat.zero_xor]

theorem cbits_snoc : ∀ (n c : Nat), cbits (n + 1) c = cbit (cbits n c)
  | 0, _ => rfl
  | n + 1, c => by show cbits (n + 1) (cbit c) = _; rw [cbits_snoc n]; rfl

theorem crc_bits (c : Nat) (hc : c < 4294967296) (H : Heap) : loopW crc_More.s1 ((c : Int), 0, ()) H = some ((((cbits 8 c : Nat) : Int), ()), H) := by
  refine loop_for' 8 (fun i => (((cbits i c : Nat) : Int), (i : Int), ())) (fun _ => H) rfl rfl ?_ ?_
  · intro i hi
    have hlt : cbits i c < 4294967296 := cbits_lt hc
    unfold crc_More.s1
    have h8 : decide ((i : Int) < 8) = true := decide_eq_true (by omega)
    have ha : bitsI .and .u32 ((cbits i c : Nat) : Int) 1 = ((cbits i c % 2 : Nat) : Int) := by
      rw [show (1 : Int) = ((1 : Nat) : Int) from rfl, and32 hlt (by decide), Nat.and_one_is_mod]
    have hs : Int.fdiv ((cbits i c : Nat) : Int) (2 ^ (min (Int.toNat 1) (IntKind.bits .u32))) = ((cbits i c / 2 : Nat) : Int) := by
      rw [show min (Int.toNat 1) (IntKind.bits .u32) = 1 from rfl, shr_nat, Nat.shiftRight_eq_div_pow]
    simp only [h8, cond_t, ha, hs, wrap_succ (show i < 9223372036854775807 by omega), cbits_snoc]
    unfold cbit
    by_cases hm : cbits i c % 2 = 1
    · rw [if_pos hm, decide_eq_true (by omega), cond_t, show (2197175160 : Int) = ((2197175160 : Nat) : Int) from rfl, xor32 (by omega) (by decide)]
    · rw [if_neg hm, decide_eq_false (by omega), cond_f]
  · unfold crc_More.s1
    rfl

theorem crc_More_eq (c : Nat) (s : Bytes) (hc : c < 4294967296) (hs : s.length < 9223372036854775807) : crc_More (c : Int) s = some (((crcMore c s : Nat) : Int), ()) := by
  unfold crc_More crc_More.on
  rw [show (4294967295 : Int) = ((4294967295 : Nat) : Int) from rfl, xor32 (by decide) hc]
  have h0 : 4294967295 ^^^ c < 4294967296 := xor_lt32 (by decide) hc
  have hl : loopW (crc_More.s2 s) (((4294967295 ^^^ c : Nat) : Int), 0, ()) [] = some ((((crun (4294967295 ^^^ c) (nats s) : Nat) : Int), ()), []) := by
    refine loop_for' s.length (fun i => (((crun (4294967295 ^^^ c) ((nats s).take i) : Nat) : Int), (i : Int), ())) (fun _ => []) rfl rfl ?_ ?_
    · intro i hi
      have hlt : crun (4294967295 ^^^ c) ((nats s).take i) < 4294967296 := crun_lt h0 fun b hb => nats_lt b (List.mem_of_mem_take hb)
      have hb := s[i].toNat_lt
      unfold crc_More.s2
      have hd : decide ((i : Int) < (s.length : Int)) = true := decide_eq_true (by omega)
      have hw : IntKind.wrap .u32 ((s[i].toNat : Nat) : Int) = ((s[i].toNat : Nat) : Int) := by rw [wrap_u32]; omega
      simp only [hd, cond_t, idx_of hi, bind_some, hw, xor32 hlt (show s[i].toNat < 4294967296 by omega), crc_bits _ (xor_lt32 hlt (show s[i].toNat < 4294967296 by omega)), wrap_succ (show i < 9223372036854775807 by omega)]
      rw [List.take_add_one, List.getElem?_eq_getElem (by rw [nats_length]; exact hi), crun_append]
      simp [nats, crun, cbyte]
    · unfold crc_More.s2
      have hd : decide ((s.length : Int) < (s.length : Int)) = false := decide_eq_false (by omega)
      simp only [hd, cond_f]
      rw [List.take_of_length_le (by rw [nats_length]; exact Nat.le_refl _)]
  rw [hl, bind_some, xor32 (crun_lt h0 nats_lt) (by decide)]
  rfl

theorem crc_Sum_eq (s : Bytes) (hs : s.length < 9223372036854775807) : crc_Sum s = some (((crcMore 0 s : Nat) : Int), ()) := by
  unfold crc_Sum crc_Sum.on
  rw [show (0 : Int) = ((0 : Nat) : Int) from rfl, crc_More_eq 0 s (by decide) hs]; rfl

end Ev
