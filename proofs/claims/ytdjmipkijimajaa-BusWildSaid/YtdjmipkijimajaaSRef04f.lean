/- tinderboxref04: numbers in so many bytes, and taken off again. -/
import Derived.Test.YtdjmipkijimajaaGRef04
import Derived.Test.YtdjmipkijimajaaSCode
namespace Ev
open Go (IntKind)

theorem ref04_Fixed_eq (n k : Nat) (hn : n < 18446744073709551616) (hk : k ≤ 8) : ref04_Fixed (n : Int) (k : Int) = some (leB k n, ()) := by
  unfold ref04_Fixed ref04_Fixed.on
  obtain ⟨x, H', h1, h2⟩ := loopW_run (step := ref04_Fixed.s1 (k : Int)) (fun s H => ∃ i : Nat, i ≤ k ∧ s.1 = ((n / 256 ^ i : Nat) : Int) ∧ s.2.2.1 = (i : Int) ∧ s.2.1.len = i ∧ Grown H 1 s.2.1 (cellsOf (leB i n))) (fun x H => Grown H 1 x.1 (cellsOf (leB k n))) (fun s _ => k - s.2.2.1.toNat)
    (by
      rintro ⟨m, s, j, u⟩ H ⟨i, hi, hm, hj, hl, hg⟩
      have hj : j = (i : Int) := hj
      have hm : m = ((n / 256 ^ i : Nat) : Int) := hm
      subst hj hm
      have hg : Grown H 1 s (cellsOf (leB i n)) := hg
      have hl : s.len = i := hl
      unfold ref04_Fixed.s1
      by_cases hlt : i < k
      · have hd : decide ((i : Int) < (k : Int)) = true := decide_eq_true (by omega)
        have hd2 : decide ((i : Int) < 8) = true := decide_eq_true (by omega)
        have hle : n / 256 ^ i ≤ n := Nat.div_le_self _ _
        have hsh : IntKind.wrap .u8 (Int.tmod ((n / 256 ^ i : Nat) : Int) 256) = (((UInt8.ofNat (n / 256 ^ i % 256)).toNat : Nat) : Int) := by
          have : (UInt8.ofNat (n / 256 ^ i % 256)).toNat = n / 256 ^ i % 256 := by simp
          rw [this]
          generalize n / 256 ^ i = q at *
          rw [Int.tmod_eq_emod_of_nonneg (by omega), wrap_u8]; omega
        have hdv : IntKind.wrap .u64 (Int.tdiv ((n / 256 ^ i : Nat) : Int) 256) = ((n / 256 ^ (i + 1) : Nat) : Int) := by
          rw [Nat.pow_succ, ← Nat.div_div_eq_div_mul]
          generalize n / 256 ^ i = q at *
          rw [Int.tdiv_eq_ediv_of_nonneg (by omega), wrap_u64]; omega
        simp only [hd, cond_t, hd2, hsh, hdv]
        rw [row_last (by rfl), bind_some]
        obtain ⟨a1, a2⟩ := (hg.push (Blk.cells [.int .u8 (((UInt8.ofNat (n / 256 ^ i % 256)).toNat : Nat) : Int)] .exact)).app (bytes := 1) (by decide) (n := 1) (new := [.int .u8 (((UInt8.ofNat (n / 256 ^ i % 256)).toNat : Nat) : Int)]) (by decide) rfl (by omega) (by omega)
        rw [a1, bind_some]
        simp only [wrap_succ (show i < 9223372036854775807 by omega), Round]
        refine ⟨⟨i + 1, by omega, rfl, rfl, by simp [hl], ?_⟩, by simp; omega⟩
        rw [leB_snoc, ← cells_snoc]
        exact a2
      · have : i = k := by omega
        subst this
        have hd : decide ((i : Int) < (i : Int)) = false := decide_eq_false (by omega)
        simp only [hd, cond_f, Round]
        exact hg) ((n : Int), ⟨some (([] : Heap).length, 0), 0, 0⟩, 0, ()) ([] ++ [Blk.cells [] .exact]) ⟨0, Nat.zero_le _, by simp, rfl, rfl, ⟨rfl, rfl, fun _ => rfl, fun a ha => by cases ha; exact ⟨rfl, .inr rfl⟩⟩⟩
  dsimp only
  rw [h1, bind_some]
  simp only [h2.str, bind_some]
end Ev
