/- A page in which the power failed has the number that was being written, or none. -/
import Derived.Test.YtdjmipkijimajaaSPv
namespace Ev
open Go (IntKind)

/-- The number that stands in a page, and the count beside it. -/
def numV (v : Int × Tg × Bytes × Unit) : Option (Int × Int) := if v.1 = 1 ∧ v.2.1.1 = 1 ∧ v.2.1.2.1 ≤ 1073741824 then some (v.2.1.2.1, v.2.1.2.2.2.2.1) else none
def numT (m w : Int) : Tg := (1, m, 0, 1, w, ())
theorem numT_ok {m w : Int} (hw : 0 ≤ w ∧ w < 4294967296) : tagOK (numT m w) = true := by
  apply decide_eq_true
  simp only [numT]
  omega
theorem num_frame {a : NdA} {m w : Int} (hm : 0 ≤ m ∧ m ≤ 1073741824) (hw : 0 ≤ w ∧ w < 4294967296) (hS : a.S < 65536) : numV (viewB a (frameB a (numT m w) [])) = some (m, w) := by
  rw [view_frame (numT_ok hw) (by simp only [numT]; omega) hS (by simp)]
  unfold numV numT
  simp [hm.2]

theorem row_get {t : Tg} {n : Nat} {j : Nat} (h : 19 ≤ j) (h2 : j < 28) : (rowOf t n)[j]? = some 0 := by
  unfold rowOf
  have hl : (leB 1 t.1.toNat ++ leB 8 t.2.1.toNat ++ leB 2 t.2.2.1.toNat ++ leB 2 t.2.2.2.1.toNat ++ leB 4 t.2.2.2.2.1.toNat ++ leB 2 n).length = 19 := by simp [leB_length]
  rw [List.getElem?_append_right (by rw [hl]; exact h), hl, zerosB, List.getElem?_replicate, if_pos (by omega)]
theorem whole_facts {d b : Bytes} (h : whole d b = true) : b.length = 32 ∧ b[27]? = some 0 ∧ tagOK (tagOf b) = true ∧ spareOf (tagOf b) (d.take (longOf b)) d.length = b := by
  obtain ⟨h1, _, h3, _, _, h6⟩ := of_decide_eq_true h
  refine ⟨h1, ?_, h3, h6⟩
  rw [← h6]
  unfold spareOf
  rw [List.getElem?_append_left (by rw [rowOf_length]; decide)]
  exact row_get (by decide) (by decide)

theorem torn_drop {T sp D : Bytes} {k S : Nat} {f : UInt8} (hT : T = D ++ sp) (hD : D.length = S) (hk : k ≤ T.length) : (T.take k ++ List.replicate (T.length - k) f).drop S = sp.take (k - S) ++ List.replicate (sp.length - (k - S)) f := by
  subst hT
  rw [List.length_append] at hk
  by_cases h : S ≤ k
  · rw [List.drop_append, List.length_take, List.length_append, List.take_append, List.drop_append, hD]
    rw [List.take_of_length_le (show D.length ≤ k by omega), List.drop_eq_nil_of_le (show D.length ≤ S by omega), hD, Nat.sub_self, List.drop_zero, List.nil_append, show S - min k (S + sp.length) = 0 by omega, List.drop_zero]
    congr 2
    omega
  · rw [List.drop_append, List.drop_eq_nil_of_le (by simp; omega), List.nil_append, List.drop_replicate, show k - S = 0 by omega, List.take_zero, List.nil_append, List.length_take, List.length_append]
    congr 1
    omega

theorem valB_mono : ∀ {x y : Bytes}, x.length = y.length → (∀ i : Nat, ∀ c e : UInt8, x[i]? = some c → y[i]? = some e → c.toNat ≤ e.toNat) → valB x ≤ valB y
  | [], [], _, _ => Nat.le_refl _
  | c :: x, e :: y, hl, h => by
    have h0 := h 0 c e rfl rfl
    have ih := valB_mono (x := x) (y := y) (by simpa using hl) fun i c e h1 h2 => h (i + 1) c e (by simpa using h1) (by simpa using h2)
    rw [valB, valB]; omega
  | [], _ :: _, h, _ => by simp at h
  | _ :: _, [], h, _ => by simp at h

theorem fld_take {b c : Bytes} {j o n : Nat} (h : b.take j = c.take j) (hj : o + n ≤ j) : fld b o n = fld c o n := by
  unfold fld
  have e : ∀ x : Bytes, (x.drop o).take n = ((x.take j).drop o).take n := by
    intro x
    rw [List.drop_take, List.take_take, show min n (j - o) = n by omega]
  rw [e b, e c, h]

/-- The bytes beside, of which the first are right and the rest is filled. -/
theorem torn_spare {d sp : Bytes} {S j : Nat} {f : UInt8} {m w : Int} (hm : 0 ≤ m ∧ m < 18446744073709551616) (hw : 0 ≤ w ∧ w < 4294967296) (hS : S < 65536) (hsp : sp = spareOf (numT m w) [] S) (hj : j ≤ 32)
    (h : whole d (sp.take j ++ List.replicate (sp.length - j) f) = true) : (tagOf (sp.take j ++ List.replicate (sp.length - j) f)).2.1 = m ∧ 0 ≤ (tagOf (sp.take j ++ List.replicate (sp.length - j) f)).2.2.2.2.1 ∧ (tagOf (sp.take j ++ List.replicate (sp.length - j) f)).2.2.2.2.1 ≤ w := by
  have hlen : sp.length = 32 := by rw [hsp]; exact spareOf_length _ _ _
  obtain ⟨f1, f2, f3, _⟩ := whole_facts h
  have htag : tagOf sp = numT m w := by rw [hsp]; exact (tagOf_spare' (numT_ok hw) (by simp only [numT]; omega) hS (by simp)).1
  have hbt : (sp.take j ++ List.replicate (sp.length - j) f).take j = sp.take j := List.take_left' (by rw [List.length_take]; omega)
  have hget : ∀ i, j ≤ i → i < 32 → (sp.take j ++ List.replicate (sp.length - j) f)[i]? = some f := by
    intro i h1 h2
    rw [List.getElem?_append_right (by rw [List.length_take]; omega), List.length_take, List.getElem?_replicate, if_pos (by omega)]
  have hgetl : ∀ i, i < j → (sp.take j ++ List.replicate (sp.length - j) f)[i]? = sp[i]? := by
    intro i h1
    rw [List.getElem?_append_left (by rw [List.length_take]; omega), List.getElem?_take, if_pos h1]
  generalize hb : sp.take j ++ List.replicate (sp.length - j) f = b at *
  have e1 : fld sp 1 8 = m.toNat := by
    have := congrArg (fun t : Tg => t.2.1) htag
    simp only [tagOf, numT] at this
    omega
  have e2 : fld sp 13 4 = w.toNat := by
    have := congrArg (fun t : Tg => t.2.2.2.2.1) htag
    simp only [tagOf, numT] at this
    omega
  have hj12 : 12 ≤ j := by
    by_cases h12 : 12 ≤ j
    · exact h12
    · exfalso
      have hf0 : f = 0 := by
        have := hget 27 (by omega) (by decide)
        rw [f2] at this
        exact (Option.some.inj this).symm
      have hof : fld b 11 2 = 0 := by
        have hl : b.length = 32 := f1
        have g1 : b[11]? = some 0 := by rw [hget 11 (by omega) (by decide), hf0]
        have g2 : b[12]? = some 0 := by rw [hget 12 (by omega) (by decide), hf0]
        unfold fld
        have ed : (b.drop 11).take 2 = [0, 0] := by
          apply List.ext_getElem?
          intro i
          match i with
          | 0 => rw [List.getElem?_take, if_pos (by decide), List.getElem?_drop, g1]; rfl
          | 1 => rw [List.getElem?_take, if_pos (by decide), List.getElem?_drop, g2]; rfl
          | i + 2 => rw [List.getElem?_take, if_neg (by omega)]; rfl
        rw [ed]; rfl
      have := of_decide_eq_true f3
      simp only [tagOf] at this
      rw [hof] at this
      omega
  have h18 : fld b 1 8 = m.toNat := by rw [fld_take hbt (by omega)]; exact e1
  have h134 : fld b 13 4 ≤ w.toNat := by
    rw [← e2]
    unfold fld
    refine valB_mono ?_ ?_
    · rw [List.length_take, List.length_take, List.length_drop, List.length_drop, f1, hlen]
    · intro i c e g1 g2
      rw [List.getElem?_take] at g1 g2
      by_cases hi : i < 4
      · rw [if_pos hi, List.getElem?_drop] at g1 g2
        by_cases hij : 13 + i < j
        · rw [hgetl _ hij, g2] at g1
          cases g1; exact Nat.le_refl _
        · rw [hget _ (by omega) (by omega)] at g1
          cases g1
          have hf0 : f = 0 := by
            have := hget 27 (by omega) (by decide)
            rw [f2] at this
            exact (Option.some.inj this).symm
          rw [hf0]; exact Nat.zero_le _
      · rw [if_neg hi] at g1; cases g1
  simp only [tagOf]
  omega

theorem torn_num {a : NdA} {x : Cut} {m w : Int} (hm : 0 ≤ m ∧ m ≤ 1073741824) (hw : 0 ≤ w ∧ w < 4294967296) (hS : a.S < 65536) :
    numV (viewB a (tornB x (frameB a (numT m w) []))) = none ∨ ∃ w', numV (viewB a (tornB x (frameB a (numT m w) []))) = some (m, w') ∧ 0 ≤ w' ∧ w' ≤ w := by
  have hT := frameB_length (a := a) (t := numT m w) (s := []) (by simp)
  have hd : (tornB x (frameB a (numT m w) [])).drop a.S = (spareOf (numT m w) [] a.S).take (min x.2.1.toNat (frameB a (numT m w) []).length - a.S) ++ List.replicate ((spareOf (numT m w) [] a.S).length - (min x.2.1.toNat (frameB a (numT m w) []).length - a.S)) (UInt8.ofNat x.2.2.1.toNat) := by
    unfold tornB
    exact torn_drop (D := dataOf [] a.S) rfl (dataOf_length (by simp)) (by omega)
  unfold viewB lookP
  split
  · left; rfl
  · split
    · rename_i hw'
      rw [hd] at hw' ⊢
      have := torn_spare (d := (tornB x (frameB a (numT m w) [])).take a.S) (sp := spareOf (numT m w) [] a.S) (S := a.S) (j := min x.2.1.toNat (frameB a (numT m w) []).length - a.S) (f := UInt8.ofNat x.2.2.1.toNat) (m := m) (w := w) ⟨hm.1, by omega⟩ hw hS rfl (by rw [hT]; omega) hw'
      generalize (spareOf (numT m w) [] a.S).take (min x.2.1.toNat (frameB a (numT m w) []).length - a.S) ++ List.replicate ((spareOf (numT m w) [] a.S).length - (min x.2.1.toNat (frameB a (numT m w) []).length - a.S)) (UInt8.ofNat x.2.2.1.toNat) = b at this ⊢
      obtain ⟨g1, g2, g3⟩ := this
      unfold numV
      split
      · right
        exact ⟨_, by rw [g1], g2, g3⟩
      · left; rfl
    · left; rfl

/-- A page of which all bytes are alike has no number. -/
theorem fill_num {a : NdA} {f : UInt8} : numV (viewB a (List.replicate (a.S + 32) f)) = none := by
  unfold viewB lookP
  split
  · rfl
  · split
    · rename_i hw
      exfalso
      obtain ⟨f1, f2, f3, _⟩ := whole_facts hw
      have hd : (List.replicate (a.S + 32) f).drop a.S = List.replicate 32 f := by rw [List.drop_replicate]; congr 1; omega
      rw [hd] at f2 f3
      have hf0 : f = 0 := by
        rw [List.getElem?_replicate, if_pos (by decide)] at f2
        exact Option.some.inj f2
      subst hf0
      revert f3
      decide
    · rfl
end Ev
