/- Words: how they are made right. -/
import Derived.Test.YtboamjjdpmaikaaSRsF
namespace Ev
open Go (IntKind)

def efix (size slope : Bytes) (e : Nat) : UInt8 := gm (gp e) (gm (ev size (gp (255 - e))) (ginv (ev slope (gp (255 - e)))))
def fixL (size slope : Bytes) : List Int → Bytes → Int → Option (Bytes × Int)
  | [], out, many => some (out, many)
  | e :: r, out, many => if ev slope (gp (255 - e.toNat)) = 0 then none else fixL size slope r (out.set (out.length - 1 - e.toNat) (co out (out.length - 1 - e.toNat) ^^^ efix size slope e.toNat)) (if efix size slope e.toNat = 0 then many else many + 1)
def syn (s : Bytes) (n : Nat) (K : List Int) : Bytes := trim ((trim (pmul (pl n (sg s)) (plF K))).take n)
def allF (s : Bytes) (n : Nat) (K : List Int) : Bytes := trim (pmul (solF (syn s n K) n K.length).2 (plF K))
def decC (s : Bytes) (n : Nat) (K : List Int) : Bytes × Int × Int :=
  if (roF (allF s n K) s.length).length = 0 ∨ ((roF (allF s n K) s.length).length : Int) ≠ (tl (allF s n K) : Int) - 1 ∨ (n : Int) < 2 * ((tl (solF (syn s n K) n K.length).2 : Int) - 1) + (K.length : Int) then ([], 0, 280)
  else match fixL (solF (syn s n K) n K.length).1 (trim (pslope (allF s n K))) (roF (allF s n K) s.length) s 0 with
    | none => ([], 0, 280)
    | some (o, m) => if rtB o n = true then (o, m, 0) else ([], 0, 280)
open Classical in
noncomputable def decF (s : Bytes) (n : Nat) (l : List Int) : Bytes × Int × Int :=
  if ckB s.length n = false then ([], 0, 1) else if badL l s.length ∨ n < (lostK l s.length).length then ([], 0, 280) else if rtB s n = true then (s, 0, 0) else decC s n (lostK l s.length)
theorem co_set (p : Bytes) (i : Nat) (x : UInt8) (k : Nat) : co (p.set i x) k = if k = i ∧ i < p.length then x else co p k := by
  unfold co
  rw [List.getD_eq_getElem?_getD, List.getElem?_set]
  by_cases h : i = k
  · subst h
    by_cases hi : i < p.length
    · rw [if_pos rfl, if_pos hi, if_pos ⟨rfl, hi⟩]; rfl
    · rw [if_pos rfl, if_neg hi, if_neg (by omega), List.getD_eq_getElem?_getD, List.getElem?_eq_none (by omega)]
  · rw [if_neg h, if_neg (by omega), List.getD_eq_getElem?_getD]
theorem fix_iter {s0 : Bytes} {c : Nat} {tb tv tw ts : Sl} {size slope : Bytes} {wh : List Int} {Ga Gb Gc Gd H0 : Heap} (hc : c = Gc.length) {d : Int} (hsz : PAt H0 tb size) (hsp : PAt H0 ts slope) (hw : Row H0 1 tw (intC wh)) (hwl : wh.length < 10000) (hl1 : size.length < 100000) (hl2 : slope.length < 100000) (hsl : s0.length ≤ 255) (hwh : ∀ e ∈ wh, 0 ≤ e ∧ e < (s0.length : Int)) (hcl : H0.length ≤ c ∨ (∀ b o, tb.p = some (b, o) → b ≠ c) ∧ (∀ b o, ts.p = some (b, o) → b ≠ c) ∧ ∀ b o, tw.p = some (b, o) → b ≠ c) :
    ∀ (r : List Int) (i : Nat) (out : Bytes) (many : Nat) (G : Heap), wh = wh.take i ++ r → i + r.length = wh.length → out.length = s0.length → many ≤ i → LAt G c s0.length (co out) → Keep (fun j => j = c) H0 G →
      ∃ j w G', iter (rs_Decode.s1 s0 ((tv, tb, ()), Ga) ((tw, ()), Gb) ((d, ()), Gc) ((ts, ()), Gd)) j ((many : Int), (i : Int), ()) G = some (w, G') ∧ Keep (fun j => j = c) H0 G' ∧ match fixL size slope r out many with
        | none => w = .inr ([], 0, 280, ())
        | some (o, m) => w = .inl (m, ()) ∧ o.length = s0.length ∧ LAt G' c s0.length (co o) := by
  intro r
  have kp : ∀ {G : Heap} {t : Sl} {cs : List C}, Keep (fun j => j = c) H0 G → Row H0 1 t cs → (∀ b o, t.p = some (b, o) → b ≠ c) → Row G 1 t cs := fun k h hb => h.keep k fun b o ho hj => hb b o ho hj
  have hbn : ∀ {t : Sl} {cs : List C}, Row H0 1 t cs → H0.length ≤ c → ∀ b o, t.p = some (b, o) → b ≠ c := fun h hle b o ho => by have := h.lt ho; omega
  have n1 : ∀ b o, tb.p = some (b, o) → b ≠ c := fun b o ho => hcl.elim (fun h => hbn hsz.row h b o ho) fun h => h.1 b o ho
  have n2 : ∀ b o, ts.p = some (b, o) → b ≠ c := fun b o ho => hcl.elim (fun h => hbn hsp.row h b o ho) fun h => h.2.1 b o ho
  have n3 : ∀ b o, tw.p = some (b, o) → b ≠ c := fun b o ho => hcl.elim (fun h => hbn hw h b o ho) fun h => h.2.2 b o ho
  have htw := hw.int_len
  induction r with
  | nil =>
    intro i out many G h1 h2 h3 h4 h5 h6
    refine ⟨1, .inl ((many : Int), ()), G, ?_, h6, rfl, h3, h5⟩
    rw [iter]
    unfold rs_Decode.s1
    simp only [List.length_nil] at h2
    simp only [decide_eq_false (show ¬ (i : Int) < (tw.len : Int) by omega), cond_f]
    rfl
  | cons e r ih =>
    intro i out many G h1 h2 h3 h4 h5 h6
    simp only [List.length_cons] at h2
    have hil : i < wh.length := by omega
    have hei : wh[i] = e := by
      have h7 : (wh.take i ++ e :: r)[i]? = some e := by
        rw [List.getElem?_append_right (by rw [List.length_take]; omega), List.length_take, Nat.min_eq_left (by omega), Nat.sub_self]; rfl
      rw [← h1, List.getElem?_eq_getElem hil] at h7
      exact Option.some.inj h7
    have hem : e ∈ wh := by rw [← hei]; exact List.getElem_mem hil
    obtain ⟨e0, e1⟩ := hwh e hem
    obtain ⟨m, rfl⟩ : ∃ m : Nat, e = (m : Int) := ⟨e.toNat, (Int.toNat_of_nonneg e0).symm⟩
    obtain ⟨b, o, _, a1, a2⟩ := (kp h6 hw n3).int hil
    rw [hei] at a2
    have hw0 : IntKind.wrap .i64 (0 - (m : Int)) = -(m : Int) := by rw [wrap_i64 (by omega) (by omega)]; omega
    have hr := gf_Root_neg m (by omega)
    have hr2 := gf_Root_eq m (by omega)
    have psp : PAt G ts slope := ⟨kp h6 hsp.row n2, hsp.cap⟩
    have psz : PAt G tb size := ⟨kp h6 hsz.row n1, hsz.cap⟩
    have hat := at_eq psp (by omega) (gp (255 - m))
    have hat2 := at_eq psz (by omega) (gp (255 - m))
    have hlen : decide ((i : Int) < (tw.len : Int)) = true := decide_eq_true (by omega)
    by_cases hz : ev slope (gp (255 - m)) = 0
    · refine ⟨1, .inr ([], 0, 280, ()), G, ?_, h6, ?_⟩
      · rw [iter]
        unfold rs_Decode.s1
        simp only [hlen, cond_t, a1, bind_some, a2, hw0, hr, hat, decide_eq_true ((un_zero _).2 hz)]
        rfl
      · rw [fixL, Int.toNat_natCast, if_pos hz]
    · have hix : IntKind.wrap .i64 ((IntKind.wrap .i64 ((s0.length : Int) - 1)) - (m : Int)) = ((out.length - 1 - m : Nat) : Int) := by
        rw [wrap_i64 (n := (s0.length : Int) - 1) (by omega) (by omega), wrap_i64 (by omega) (by omega)]; omega
      have hlt : out.length - 1 - m < s0.length := by omega
      have g1 := h5.get hlt
      obtain ⟨G2, w1, w2, w3⟩ := h5.set hlt (co out (out.length - 1 - m) ^^^ efix size slope m)
      have w2' : LAt G2 c s0.length (co (out.set (out.length - 1 - m) (co out (out.length - 1 - m) ^^^ efix size slope m))) := w2.congr fun k hk => by
        rw [co_set]
        by_cases hk2 : k = out.length - 1 - m
        · rw [if_pos hk2, if_pos ⟨hk2, by omega⟩]
        · rw [if_neg hk2, if_neg (fun h => hk2 h.1)]
      obtain ⟨many2, hm2, hm3⟩ : ∃ many2 : Nat, (if efix size slope m = 0 then (many : Int) else (many : Int) + 1) = (many2 : Int) ∧ many2 ≤ i + 1 := by
        by_cases hx : efix size slope m = 0
        · exact ⟨many, if_pos hx, by omega⟩
        · exact ⟨many + 1, by rw [if_neg hx]; omega, by omega⟩
      obtain ⟨j, w, G', f1, f2, f3⟩ := ih (i + 1) (out.set (out.length - 1 - m) (co out (out.length - 1 - m) ^^^ efix size slope m)) many2 G2 (by
        rw [List.take_succ_eq_append_getElem hil, hei, List.append_assoc]; exact h1) (by omega) (by rw [List.length_set]; exact h3) hm3 w2' (h6.trans w3)
      refine ⟨j + 1, w, G', ?_, f2, ?_⟩
      · have hstep : rs_Decode.s1 s0 ((tv, tb, ()), Ga) ((tw, ()), Gb) ((d, ()), Gc) ((ts, ()), Gd) ((many : Int), (i : Int), ()) G = some (.inl ((many2 : Int), ((i + 1 : Nat) : Int), ()), G2) := by
          unfold rs_Decode.s1
          have hat' : Sl.at 1 ⟨some (Gc.length, 0), s0.length, s0.length⟩ ((out.length - 1 - m : Nat) : Int) = some (c, out.length - 1 - m) := by rw [← hc]; exact BAt.at hlt
          have hef : gm (gp m) (gm (ev size (gp (255 - m))) (ginv (ev slope (gp (255 - m))))) = efix size slope m := rfl
          have hs1 := wrap_succ (show i < 9223372036854775807 by omega)
          have hs2 : IntKind.wrap .i64 (many2 : Int) = (many2 : Int) := wrap_i64 (by omega) (by omega)
          simp only [hlen, cond_t, a1, bind_some, a2, hw0, hr, hat, decide_eq_false fun hh => hz ((un_zero _).1 hh), cond_f, hr2, hat2, gf_Inv_eq, gf_Mul_eq, hef, hix, hat']
          by_cases hx : efix size slope m = 0
          · rw [if_pos hx] at hm2
            simp only [decide_eq_true ((un_zero _).2 hx), Bool.not_true, cond_f, bind_some, g1, un_xor, w1, hs1, hm2]
          · rw [if_neg hx] at hm2
            simp only [decide_eq_false fun hh => hx ((un_zero _).1 hh), Bool.not_false, cond_t, bind_some, g1, un_xor, w1, hs1, hm2, hs2]
        rw [iter, hstep]
        exact f1
      · rw [fixL, Int.toNat_natCast, if_neg hz, hm2]
        exact f3

theorem no3 {s : Sl} (b o : Nat) (_ : s.p = some (b, o)) : ¬ False := id
theorem roF_mem {p : Bytes} {n : Nat} {e : Int} : e ∈ roF p n ↔ ∃ k : Nat, k < n ∧ e = (k : Int) ∧ ev p (gp (255 - k)) = 0 := by
  unfold roF
  rw [List.mem_map]
  constructor
  · rintro ⟨k, hk, rfl⟩
    obtain ⟨h1, h2⟩ := List.mem_filter.1 hk
    exact ⟨k, List.mem_range.1 h1, rfl, beq_iff_eq.1 h2⟩
  · rintro ⟨k, h1, rfl, h2⟩
    exact ⟨k, List.mem_filter.2 ⟨List.mem_range.2 h1, beq_iff_eq.2 h2⟩, rfl⟩
theorem pmul_len (p q : Bytes) : (trim (pmul p q)).length ≤ p.length + q.length := by
  refine Nat.le_trans tl_le_len ?_
  unfold pmul
  rw [pl_len]; exact Nat.le_refl _
theorem solL_len {m M : Nat} (hm : 1 ≤ m) : ∀ (f : Nat) (a b u v : Bytes), tl b ≤ f → tl a + v.length ≤ M → u.length + tl b ≤ M → (solL m f a b u v).2.length ≤ M ∧ (solL m f a b u v).1.length ≤ max a.length b.length
  | 0, a, b, u, v, _, h2, _ => ⟨by show v.length ≤ M; omega, by show b.length ≤ _; omega⟩
  | f + 1, a, b, u, v, h1, h2, h3 => by
    rw [solL]
    split
    · rename_i hle
      have h0 : 0 < tl b := by omega
      obtain ⟨a1, a2, a3, a4⟩ := divL_ok (v := v) (M := M) h0 (tl a) a u (Nat.le_refl _) h2 h3
      obtain ⟨b1, b2⟩ := solL_len (M := M) hm f b (divL b v (tl a) a u).1 v (divL b v (tl a) a u).2 (by omega) (by omega) (by omega)
      exact ⟨b1, by omega⟩
    · exact ⟨by show v.length ≤ M; omega, by show b.length ≤ _; omega⟩
theorem solF_len {T : Bytes} {n l : Nat} (hn : 1 ≤ n) (hT : T.length ≤ n) : (solF T n l).2.length ≤ n + 2 ∧ (solF T n l).1.length ≤ n + 1 := by
  have hal : (trim (psh n [1])).length ≤ n + 1 := by
    refine Nat.le_trans tl_le_len ?_
    unfold psh
    rw [pl_len]; exact Nat.le_refl _
  have htl := tl_le (trim (psh n [1]))
  have htT := tl_le T
  obtain ⟨h1, h2⟩ := solL_len (m := n + l) (M := n + 2) (by omega) (tl T) (trim (psh n [1])) T [] [1] (Nat.le_refl _) (by show _ + 1 ≤ _; omega) (by show 0 + _ ≤ _; omega)
  exact ⟨h1, by
    have h2' : (solF T n l).1.length ≤ max (trim (psh n [1])).length T.length := h2
    omega⟩
theorem syn_len (s : Bytes) (n : Nat) (K : List Int) : (syn s n K).length ≤ n := by
  unfold syn
  refine Nat.le_trans tl_le_len ?_
  rw [List.length_take]; omega
theorem decC_eq {H : Heap} {ts : Sl} {s : Bytes} {n : Nat} {K : List Int} (hK : Row H 1 ts (intC K)) (hKn : K.length ≤ n) (hKe : ∀ e ∈ K, 0 ≤ e ∧ e < (s.length : Int)) (hn : 1 ≤ n ∧ n ≤ 32) (hs : n < s.length ∧ s.length ≤ 255) :
    ∃ G, ((rs_places ts H).bind fun (r4 : ((Sl × Unit) × Heap)) =>
 (rs_Signs s (n : Int) r4.2).bind fun (r5 : ((Sl × Unit) × Heap)) =>
 (gf_Poly_Mul r5.1.1 r4.1.1 r5.2).bind fun (r6 : ((Sl × Unit) × Heap)) =>
 (gf_Poly_Cut r6.1.1 (n : Int) r6.2).bind fun (r7 : ((Sl × Unit) × Heap)) =>
 (rs_solve r7.1.1 (n : Int) (ts.len : Int) r7.2).bind fun (r8 : ((Sl × Sl × Unit) × Heap)) =>
 (gf_Poly_Mul r8.1.1 r4.1.1 r8.2).bind fun (r9 : ((Sl × Unit) × Heap)) =>
 (rs_roots r9.1.1 (List.length (s : Bytes) : Int) r9.2).bind fun (r10 : ((Sl × Unit) × Heap)) =>
 cond (decide ((r10.1.1.len : Int) = 0)) (
 some ((([] : Bytes), (0 : Int), (280 : Int), ()), r10.2)) (
 (gf_Poly_Degree r9.1.1 r10.2).bind fun (r11 : ((Int × Unit) × Heap)) =>
 cond (!decide ((r10.1.1.len : Int) = r11.1.1)) (
 some (([], 0, 280, ()), r11.2)) (
 (gf_Poly_Degree r8.1.1 r11.2).bind fun (r12 : ((Int × Unit) × Heap)) =>
 cond (decide ((n : Int) < (IntKind.wrap .i64 ((IntKind.wrap .i64 (2 * r12.1.1)) + (ts.len : Int))))) (
 some (([], 0, 280, ()), r12.2)) (
 let H13 : Heap := r12.2 ++ [Blk.cells (cellsOf s) .loose]
 (gf_Poly_Slope r9.1.1 H13).bind fun (r14 : ((Sl × Unit) × Heap)) =>
 (loopW (rs_Decode.s1 s r8 r10 r12 r14) (0, 0, ()) r14.2).bind fun (p32 : ((Int × Unit) ⊕ (Bytes × Int × Int × Unit)) × Heap) =>
 Sum.elim (fun (y33 : (Int × Unit)) =>
 (strOf p32.2 (⟨some (r12.2.length, 0), (List.length (s : Bytes)), (List.length (s : Bytes))⟩)).bind fun (s34 : Bytes) =>
 (rs_Right s34 (n : Int)).bind fun (r35 : (Bool × Unit)) =>
 cond (!r35.1) (
 some (([], 0, 280, ()), p32.2)) (
 (strOf p32.2 (⟨some (r12.2.length, 0), (List.length (s : Bytes)), (List.length (s : Bytes))⟩)).bind fun (s36 : Bytes) =>
 some ((s36, y33.1, 0, ()), p32.2))) (fun (z37 : (Bytes × Int × Int × Unit)) =>
 some ((z37.1, z37.2.1, z37.2.2.1, ()), p32.2)) p32.1)))) = some (((decC s n K).1, (decC s n K).2.1, (decC s n K).2.2, ()), G) ∧ Keep (fun _ => False) H G := by
  have hkl := hK.int_len
  have hpl := plF_len K
  obtain ⟨t4, G4, a1, a2, a3⟩ := places_eq hK (by omega) (fun e he => by have := hKe e he; omega)
  obtain ⟨t5, G5, b1, b2, b3⟩ := signs_eq s n G4 (by omega) (by omega)
  obtain ⟨t6, G6, c1, c2, c3⟩ := mul_eq b2 (a2.keep b3) (by rw [pl_len]; omega)
  have hm1 := pmul_len (pl n (sg s)) (plF K)
  rw [pl_len] at hm1
  obtain ⟨t7, G7, d1, d2, d3⟩ := cut_eq c2 (by omega) n
  have d2 : PAt G7 t7 (syn s n K) := d2
  have hsy := syn_len s n K
  obtain ⟨t8b, t8v, G8, e1, e2, e3, e4⟩ := solve_eq d2 (n := n) (l := K.length) (by omega) (by omega) (by omega) hsy
  rw [← hkl] at e1
  obtain ⟨hl1, hl2⟩ := solF_len (T := syn s n K) (l := K.length) hn.1 hsy
  have k48 := (((b3.trans c3).trans d3).trans e4)
  obtain ⟨t9, G9, f1, f2, f3⟩ := mul_eq e3 (a2.keep k48) (by omega)
  have f2 : PAt G9 t9 (allF s n K) := f2
  have hm2 : (allF s n K).length ≤ (solF (syn s n K) n K.length).2.length + (plF K).length := pmul_len _ _
  obtain ⟨t10, G10, g1, g2⟩ := roots_eq f2 (by omega) (long := s.length) hs.2
  have hrl := roF_len (allF s n K) s.length
  have ht10 := g2.int_len
  have kH9 := ((a3.trans k48).trans f3)
  have kH10 := kH9.trans g2.keep
  simp only [a1, bind_some, b1, c1, d1, e1, f1, g1]
  unfold decC
  by_cases q1 : (roF (allF s n K) s.length).length = 0
  · rw [if_pos (.inl q1), decide_eq_true (show (t10.len : Int) = 0 by omega), cond_t]
    exact ⟨G10, rfl, kH10⟩
  rw [decide_eq_false (show ¬ (t10.len : Int) = 0 by omega), cond_f]
  have d11 := degree_eq (f2.keep g2.keep) (by omega)
  simp only [d11, bind_some]
  by_cases q2 : ((roF (allF s n K) s.length).length : Int) = (tl (allF s n K) : Int) - 1
  rotate_left
  · rw [if_pos (.inr (.inl q2)), decide_eq_false (show ¬ (t10.len : Int) = (tl (allF s n K) : Int) - 1 by omega), Bool.not_false, cond_t]
    exact ⟨G10, rfl, kH10⟩
  rw [decide_eq_true (show (t10.len : Int) = (tl (allF s n K) : Int) - 1 by omega), Bool.not_true, cond_f]
  have d12 := degree_eq ((e3.keep f3).keep g2.keep) (by omega)
  simp only [d12, bind_some]
  have htl := tl_le (solF (syn s n K) n K.length).2
  have hw : IntKind.wrap .i64 ((IntKind.wrap .i64 (2 * ((tl (solF (syn s n K) n K.length).2 : Int) - 1))) + (ts.len : Int)) = 2 * ((tl (solF (syn s n K) n K.length).2 : Int) - 1) + (K.length : Int) := by
    rw [wrap_i64 (n := 2 * ((tl (solF (syn s n K) n K.length).2 : Int) - 1)) (by omega) (by omega), wrap_i64 (by omega) (by omega)]; omega
  rw [hw]
  by_cases q3 : (n : Int) < 2 * ((tl (solF (syn s n K) n K.length).2 : Int) - 1) + (K.length : Int)
  · rw [if_pos (.inr (.inr q3)), decide_eq_true q3, cond_t]
    exact ⟨G10, rfl, kH10⟩
  rw [if_neg (fun h => h.elim q1 fun h => h.elim (fun h => h q2) q3), decide_eq_false q3, cond_f]
  have k13 : Keep (fun _ => False) G10 (G10 ++ [Blk.cells (cellsOf s) .loose]) := Keep.push _ _ _
  obtain ⟨t14, G14, s1, s2, s3, s4⟩ := slope_eq ((f2.keep g2.keep).keep k13) (by omega)
  have hsll : (trim (pslope (allF s n K))).length < 100000 := by
    have : (trim (pslope (allF s n K))).length ≤ (allF s n K).length := by
      refine Nat.le_trans tl_le_len ?_
      unfold pslope
      rw [pl_len]; omega
    omega
  have la : LAt G14 G10.length s.length (co s) := by
    have : (G10 ++ [Blk.cells (cellsOf s) .loose])[G10.length]? = some (.cells (arrC s.length fun k => [.int .u8 (un (co s k))]) .loose) := by rw [app_last, ← cells_pl, pl_co]
    exact s3.get this id
  have hlt10 : ∀ {t : Sl} {cs : List C}, Row G10 1 t cs → ∀ b o, t.p = some (b, o) → b ≠ G10.length := fun h b o ho => by have := h.lt ho; omega
  have e2' := (e2.keep f3).keep g2.keep
  obtain ⟨j, w, G', i1, i2, i3⟩ := fix_iter (s0 := s) (c := G10.length) (tv := t8v) (tw := t10) (Ga := G8) (Gb := G10) (Gc := G10) (Gd := G14) (d := (tl (solF (syn s n K) n K.length).2 : Int) - 1) rfl ((e2'.keep k13).keep s3) s2 ((g2.row.keep k13 no3).keep s3 no3) (by omega) (by omega) hsll hs.2 (fun e he => by
      obtain ⟨k, h1, rfl, _⟩ := roF_mem.1 he
      omega) (.inr ⟨hlt10 e2'.row, fun b o ho => by have := s4 b o ho; simp at this; omega, hlt10 g2.row⟩) (roF (allF s n K) s.length) 0 s 0 G14 (by simp) (by omega) rfl (Nat.le_refl _) la (Keep.refl _ _)
  have l1 : loopW (rs_Decode.s1 s ((t8v, t8b, ()), G8) ((t10, ()), G10) (((tl (solF (syn s n K) n K.length).2 : Int) - 1, ()), G10) ((t14, ()), G14)) (0, 0, ()) G14 = some (w, G') := loopW_eq i1
  have kG' : Keep (fun _ => False) H G' := by
    refine (((kH10.trans k13).trans s3).mono (G := fun j => j = G10.length) fun _ h => h.elim).trans i2 |>.new fun k hk hlt => ?_
    have h1 : k = G10.length := hk
    have h2 := kH10.len
    omega
  simp only [s1, bind_some, l1]
  have hz : ((0 : Nat) : Int) = 0 := rfl
  rw [hz] at i3
  cases hf : fixL (solF (syn s n K) n K.length).1 (trim (pslope (allF s n K))) (roF (allF s n K) s.length) s 0 with
  | none =>
    rw [hf] at i3
    have i3 : w = .inr ([], 0, 280, ()) := i3
    subst i3
    exact ⟨G', rfl, kG'⟩
  | some om =>
    obtain ⟨o, m⟩ := om
    rw [hf] at i3
    obtain ⟨i3, i4, i5⟩ : w = .inl (m, ()) ∧ o.length = s.length ∧ LAt G' G10.length s.length (co o) := i3
    subst i3
    have hpo := i5.poly
    rw [← i4, pl_co] at hpo
    have hstr : strOf G' ⟨some (G10.length, 0), s.length, s.length⟩ = some o := by
      unfold strOf
      rw [← i4, hpo.row.row]
      exact bytes_of_cells _
    have hck : ckB o.length n = true := decide_eq_true (by rw [i4]; omega)
    have hrt := right_eq o n (by omega) (by omega)
    rw [hck, Bool.true_and] at hrt
    simp only [sumL, hstr, bind_some, hrt]
    cases hb : rtB o n with
    | true => exact ⟨G', by simp, kG'⟩
    | false => exact ⟨G', by simp, kG'⟩
end Ev
