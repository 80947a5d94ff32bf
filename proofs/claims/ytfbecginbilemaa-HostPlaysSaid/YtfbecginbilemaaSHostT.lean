/- Chapter 32: HostPlays. -/
import Derived.Test.YtfbecginbilemaaSHostR
import Derived.Test.YtfbecginbilemaaSCame
import Derived.Test.YtfbecginbilemaaSNandDid
namespace Ev
open Go (IntKind)

theorem text32_eq (n : Nat) (c : UInt8) (hn : n ≤ 100000) : law32_text (n : Int) (c.toNat : Int) = some (List.replicate n c, ()) := by
  unfold law32_text law32_text.on
  have hmk : mkS ([] : Heap) 1 [.int .u8 0] (n : Int) (n : Int) = some (⟨some (0, 0), n, n⟩, [.cells (cellsOf (List.replicate n 0)) .exact]) := mkS_u8 (H := []) (n := n) (by omega)
  obtain ⟨y, G, l1, l2⟩ := loop_rise (step := law32_text.s1 (n : Int) (c.toNat : Int) (⟨some (0, 0), n, n⟩, [.cells (cellsOf (List.replicate n 0)) .exact])) n
    (fun i z G => z = ((i : Int), ()) ∧ G[0]? = some (.cells (cellsOf (List.replicate i c ++ List.replicate (n - i) 0)) .exact)) (fun _ G => G[0]? = some (.cells (cellsOf (List.replicate n c)) .exact))
    (by
      rintro i _ G hi ⟨rfl, hc⟩
      have hat : Sl.at 1 ⟨some (0, 0), n, n⟩ (i : Int) = some (0, i) := by rw [at_of (by omega) (by show (i : Int) < (n : Int); omega), Int.toNat_natCast, Nat.mul_one, Nat.zero_add]
      have w1 := wr_of (o := i) (new := [.int .u8 (c.toNat : Int)]) hc (by decide) (by rw [cells_len, List.length_append, List.length_replicate, List.length_replicate]; show i + 1 ≤ _; omega)
      have hset : setL (cellsOf (List.replicate i c ++ List.replicate (n - i) 0)) i [.int .u8 (c.toNat : Int)] = cellsOf (List.replicate (i + 1) c ++ List.replicate (n - (i + 1)) 0) := by
        rw [show n - i = (n - (i + 1)) + 1 by omega, List.replicate_succ (a := (0 : UInt8)), List.replicate_succ' (a := c), cells_app]
        have := setL_mid [.int .u8 (c.toNat : Int)] [.int .u8 0] (cellsOf (List.replicate i c)) (cellsOf (List.replicate (n - (i + 1)) 0)) i (by rw [cells_len, List.length_replicate]) rfl
        rw [List.append_assoc, List.append_assoc] at this
        refine this.trans ?_
        rw [List.append_assoc, cells_app]
        rfl
      rw [hset] at w1
      refine .inl ⟨(((i + 1 : Nat) : Int), ()), _, ?_, rfl, set_get (get_lt hc)⟩
      unfold law32_text.s1
      simp only [decide_eq_true (show (i : Int) < (n : Int) by omega), cond_t, hat, bind_some, w1, wrap_succ (show i < 9223372036854775807 by omega)])
    (by
      rintro _ G ⟨rfl, hc⟩
      refine ⟨(), G, ?_, ?_⟩
      · unfold law32_text.s1
        simp only [decide_eq_false (show ¬ (n : Int) < (n : Int) by omega), cond_f]
      · rw [hc, Nat.sub_self, show List.replicate 0 (0 : UInt8) = [] from rfl, List.append_nil])
    (y := (((0 : Nat) : Int), ())) (H := [.cells (cellsOf (List.replicate n 0)) .exact]) ⟨rfl, rfl⟩
  have l1' : loopW (law32_text.s1 (n : Int) (c.toNat : Int) (⟨some (0, 0), n, n⟩, [.cells (cellsOf (List.replicate n 0)) .exact])) (0, ()) [.cells (cellsOf (List.replicate n 0)) .exact] = some (y, G) := l1
  have hs : strOf G ⟨some (0, 0), n, n⟩ = some (List.replicate n c) := strOf_of l2 (by rw [cells_len, List.length_replicate]; omega) (by rw [List.drop_zero, List.take_of_length_le]; rw [cells_len, List.length_replicate]; exact Nat.le_refl _)
  simp only [hmk, bind_some, l1', hs]

section
variable {a a' : NdA} {s : Nd}
theorem fullP_same (hS : a'.S = a.S) : fullP a' = fullP a := by unfold fullP; rw [hS]
theorem progT_same (hB : a'.B = a.B) (hP : a'.P = a.P) (hS : a'.S = a.S) (b p : Int) (d sp : Bytes) : s.progT a' b p d sp = s.progT a b p d sp := by
  unfold Nd.progT Nd.inE Nd.used Nd.program Nd.lay
  rw [hB, hP, hS, fullP_same hS]
theorem eraseT_same (hB : a'.B = a.B) (hP : a'.P = a.P) (hS : a'.S = a.S) (b : Int) : s.eraseT a' b = s.eraseT a b := by
  unfold Nd.eraseT Nd.inE Nd.erase Nd.lay
  rw [hB, hP, hS, fullP_same hS]
theorem markT_same (hB : a'.B = a.B) (hP : a'.P = a.P) (b : Int) : s.markT a' b = s.markT a b := by
  unfold Nd.markT Nd.inE
  rw [hB, hP]
theorem readT_same (hB : a'.B = a.B) (hP : a'.P = a.P) (hS : a'.S = a.S) (b p : Int) : s.readT a' b p = s.readT a b p := by
  unfold Nd.readT Nd.inE Nd.read
  rw [hB, hP, hS, fullP_same hS]
theorem markedT_same (hB : a'.B = a.B) (hP : a'.P = a.P) (b : Int) : s.markedT a' b = s.markedT a b := by
  unfold Nd.markedT Nd.inE
  rw [hB, hP]
theorem wf_same {D : Int} (w : Wf a s D) (hB : a'.B = a.B) (hP : a'.P = a.P) (hS : a'.S = a.S) : Wf a' s D :=
  ⟨w.did, w.worn, w.cuts, fun b p => by rw [hS, fullP_same hS]; exact w.fine b p, w.small, by rw [hB, hP, hS]; exact w.sz⟩
end
theorem came_4 {cts : List CT} {B H : Heap} {s : Sl} (h : Came cts B s H) : ∃ (t : Sl) (rows : List (Tup cts)), Sl.sub cts.length s 0 (if 4 < (s.len : Int) then 4 else (s.len : Int)) (s.cap : Int) = some t ∧ Row H cts.length t (rowsOf cts rows) ∧ rows.length ≤ 4 ∧ ∀ x ∈ rows, ∀ c ∈ Tup.mk cts x, wfC c := by
  obtain ⟨rows, lr, ll, lw, _⟩ := came_rows h
  obtain ⟨f1, f2⟩ := row_front lr ll (came_fits h) (n := min 4 s.len) (by omega)
  refine ⟨_, _, ?_, f2, by rw [List.length_take]; omega, fun x hx => lw x (List.mem_of_mem_take hx)⟩
  rw [← f1]
  congr 1
  split <;> omega
theorem act4_cell {H : Heap} {s : Sl} {rows : List (Tup [.int .i64, .int .i64, .int .i64, .int .u8])} (h : Row H 4 s (rowsOf [.int .i64, .int .i64, .int .i64, .int .u8] rows)) (lw : ∀ x ∈ rows, ∀ c ∈ Tup.mk [.int .i64, .int .i64, .int .i64, .int .u8] x, wfC c) {i : Nat} (hi : i < rows.length) :
    ∃ (b o : Nat) (k x p : Int) (u : UInt8), Sl.at 4 s (i : Int) = some (b, o) ∧ @Eq (Option (Int × Int × Int × Int × Unit)) (rd H (.agg [.int .i64, .int .i64, .int .i64, .int .u8]) b o) (some (k, x, p, ((u.toNat : Nat) : Int), ())) := by
  obtain ⟨b, o, _, h1, _, cs, bk, h2, h3, h4⟩ := h.at (cts := [.int .i64, .int .i64, .int .i64, .int .u8]) hi (by decide)
  have hwf := lw rows[i] (List.getElem_mem hi) (.int .u8 rows[i].2.2.2.1) (by simp [Tup.mk, CT.mk])
  have hbb : ∀ f : Int, wfC (.int .u8 f) → 0 ≤ f ∧ f < 256 := fun f hf => by
    have h' : 0 ≤ f ∧ f ≤ 255 := hf
    omega
  have hb := hbb _ hwf
  refine ⟨b, o, rows[i].1, rows[i].2.1, rows[i].2.2.1, UInt8.ofNat (Int.toNat rows[i].2.2.2.1), h1, ?_⟩
  rw [byte_back hb]
  refine rd_agg_of h2 h3 ?_
  rw [h4]
  simp [Tup.mk, Tup.un, CT.mk, CT.un]
  rfl
section
variable {H : Heap} {N : Nat → Prop} {h b : Nat} {a : NdA} {s : Nd} {k : Bs} {T : Int} {n : Nat}
theorem Ho.power (o : Ho H N h b a s k T n) : ∃ H', nand_Chip_Power (some (a.c, 0)) H = some ((), H') ∧ Ho H' N h b a { s with off := false } k T n ∧ Keep (fun x => ¬ N x) H H' := by
  obtain ⟨⟨⟨sa, si, hx⟩, w, gd⟩, hc, hn, nn⟩ := o
  obtain ⟨H', p1, p2, p3⟩ := nand_power hx.nd
  have kk := hx.lowc p3
  have ws : Wf a ({ s with off := false } : Nd) T := ⟨w.did, w.worn, w.cuts, w.fine, w.small, w.sz⟩
  exact ⟨H', p1, ⟨⟨⟨sa, si, hx.chip p2 p3⟩, ws, gd⟩, kk.get hc fun hh => hh (.inr rfl), hn, nn⟩, hoK kk⟩
end
end Ev
namespace Ev
open Go (IntKind)

abbrev actU : List CT := [.int .i64, .int .i64, .int .i64, .int .u8]
def actB (k x p f : Int) : Blk := .cells [.int .i64 k, .int .i64 x, .int .i64 p, .int .u8 f] .exact
/-- What holds between acts: the host's chip, the other one. -/
structure PI (M : Nat → Prop) (h b : Nat) (a a2 : NdA) (R G : Heap) (s : Nd) (k : Bs) (T : Int) (n : Nat) : Prop where
  o : Ho G (fun x => M x ∨ a2.own x) h b a s k T n
  r : Rest k
  nd : NdAt G a2 s
  kp : Keep (fun x => ¬ M x) R G
section
variable {M : Nat → Prop} {h b : Nat} {a a2 : NdA} {R G : Heap} {s : Nd} {k : Bs} {T : Int} {n : Nat}
theorem PI.le (p : PI M h b a a2 R G s k T n) {T' : Int} (h1 : T ≤ T') (h2 : T' ≤ 1000000) : PI M h b a a2 R G s k T' n := ⟨p.o.le h1 h2, p.r, p.nd, p.kp⟩
/-- The host did something, then the other chip. -/
theorem PI.both (p : PI M h b a a2 R G s k T n) (hM : ∀ x, M x → ¬ a2.own x) {G1 G2 : Heap} {s' : Nd} {k' : Bs} {T' : Int} {n' : Nat} (o : Ho G1 (fun x => M x ∨ a2.own x) h b a s' k' T' n') (r : Rest k') (k1 : Keep (fun x => ¬ (M x ∨ a2.own x)) G G1) (nd : NdAt G2 a2 s') (k2 : Keep a2.fp G1 G2) : PI M h b a a2 R G2 s' k' T' n' :=
  ⟨o.far k2 fun x hx => .inr (.inl hx), r, nd, (p.kp.trans (k1.mono fun x hx hm => hx (.inl hm))).trans (k2.mono fun x hx hm => hM x hm (.inl hx))⟩
theorem PI.mid (p : PI M h b a a2 R G s k T n) {G1 : Heap} (k1 : Keep (fun x => ¬ (M x ∨ a2.own x)) G G1) : NdAt G1 a2 s := p.nd.keep k1 fun j hj hf => hf (.inr hj)
/-- A block of one's own is added, and let go. -/
theorem PI.add (p : PI M h b a a2 R G s k T n) (X : Blk) : PI (fun x => M x ∨ x = G.length) h b a a2 (G ++ [X]) (G ++ [X]) s k T n :=
  ⟨p.o.grow (Keep.push _ _ _) fun x hx => by
    rcases hx with (hx | hx) | hx
    · exact ⟨.inl (.inl hx), by have := p.o.NL (x := x) (.inl hx); simp; omega⟩
    · subst hx; exact ⟨.inr (Nat.le_refl _), by simp⟩
    · exact ⟨.inl (.inr hx), by have := p.o.NL (x := x) (.inr hx); simp; omega⟩, p.r, p.nd.push X, Keep.refl _ _⟩
theorem PI.less (p : PI M h b a a2 R G s k T n) {M' : Nat → Prop} (hM : ∀ x, M' x → M x) {R' : Heap} (kr : Keep (fun x => ¬ M' x) R' R) : PI M' h b a a2 R' G s k T n :=
  ⟨p.o.less fun x hx => hx.elim (fun e => .inl (hM x e)) .inr, p.r, p.nd, kr.trans (p.kp.mono fun x hx hm => hx (hM x hm))⟩
theorem bool_beq (x : Bool) : (x == x) = true := by cases x <;> rfl
/-- What is compared behind each act. -/
theorem PI.tail (p : PI M h b a a2 R G s k T n) (hM : ∀ x, M x → ¬ a2.own x) (hB : a2.B = a.B) (hP : a2.P = a.P) (hT : T + 20 < 999999) (x : Int) :
    ∃ G1 k1 n1, nand_Chip_Did (some (a.c, 0)) G = some ((s.did, ()), G) ∧ nand_Chip_Did (some (a2.c, 0)) G = some ((s.did, ()), G) ∧ nand_Chip_Off (some (a.c, 0)) G = some ((s.off, ()), G) ∧ nand_Chip_Off (some (a2.c, 0)) G = some ((s.off, ()), G) ∧
      host_Host_Marked (some (h, 0)) x G = some (s.markedT a x, G1) ∧ nand_Chip_Marked (some (a2.c, 0)) x G1 = some (s.markedT a x, G1) ∧ PI M h b a a2 R G1 s k1 (T + 10) n1 := by
  obtain ⟨G1, k1, n1, e1, e2, e3, e4⟩ := p.o.marked p.r hT x
  have nd1 := p.mid e4
  have hm := nand_markedT nd1 x
  rw [markedT_same hB hP] at hm
  exact ⟨G1, k1, n1, nand_did p.o.bg.nd, nand_did p.nd, nand_off p.o.bg.nd, nand_off p.nd, e1, hm, p.both hM e2 e3 e4 nd1 (Keep.refl _ _)⟩
end
section
variable {M : Nat → Prop} {h b : Nat} {a a2 : NdA} {R G : Heap} {s : Nd} {k : Bs} {T : Int} {n : Nat}
theorem PI.erase (p : PI M h b a a2 R G s k T n) (hM : ∀ x, M x → ¬ a2.own x) (hB : a2.B = a.B) (hP : a2.P = a.P) (hS : a2.S = a.S) (hT : T + 20 < 999999) (x : Int) : ∃ G1 G2 s' k' n' e, host_Host_Erase (some (h, 0)) x G = some ((e, ()), G1) ∧ Keep (fun x => ¬ (M x ∨ a2.own x)) G G1 ∧ nand_Chip_Erase (some (a2.c, 0)) x G1 = some ((e, ()), G2) ∧ PI M h b a a2 R G2 s' k' (T + 10) n' := by
  obtain ⟨G1, k1, n1, e1, e2, e3, e4⟩ := p.o.erase p.r hT x
  obtain ⟨G2, f1, f2, f3⟩ := nand_eraseT (p.mid e4) (wf_same p.o.wf hB hP hS) x
  rw [eraseT_same hB hP hS] at f1 f2
  exact ⟨G1, G2, _, k1, n1, _, e1, e4, f1, p.both hM e2 e3 e4 f2 f3⟩
theorem PI.mark (p : PI M h b a a2 R G s k T n) (hM : ∀ x, M x → ¬ a2.own x) (hB : a2.B = a.B) (hP : a2.P = a.P) (hS : a2.S = a.S) (hT : T + 20 < 999999) (x : Int) : ∃ G1 G2 s' k' n' e, host_Host_Mark (some (h, 0)) x G = some ((e, ()), G1) ∧ Keep (fun x => ¬ (M x ∨ a2.own x)) G G1 ∧ nand_Chip_Mark (some (a2.c, 0)) x G1 = some ((e, ()), G2) ∧ PI M h b a a2 R G2 s' k' (T + 10) n' := by
  obtain ⟨G1, k1, n1, e1, e2, e3, e4⟩ := p.o.mark p.r hT x
  obtain ⟨G2, f1, f2, f3⟩ := nand_markT (p.mid e4) (wf_same p.o.wf hB hP hS) x
  rw [markT_same hB hP] at f1 f2
  exact ⟨G1, G2, _, k1, n1, _, e1, e4, f1, p.both hM e2 e3 e4 f2 f3⟩
theorem PI.program (p : PI M h b a a2 R G s k T n) (hM : ∀ x, M x → ¬ a2.own x) (hB : a2.B = a.B) (hP : a2.P = a.P) (hS : a2.S = a.S) (hT : T + (a.P : Int) * ((a.S : Int) + 60) + 4000 < 999999) (x q : Int) (d sp : Bytes) (hdl : d.length < 100000) (hsl : sp.length < 100000) :
    ∃ G1 G2 s' k' n' e, host_Host_Program (some (h, 0)) x q d sp G = some ((e, ()), G1) ∧ Keep (fun x => ¬ (M x ∨ a2.own x)) G G1 ∧ nand_Chip_Program (some (a2.c, 0)) x q d sp G1 = some ((e, ()), G2) ∧ PI M h b a a2 R G2 s' k' (T + (a.P : Int) * ((a.S : Int) + 60) + (a.S : Int) + 50) n' := by
  obtain ⟨G1, k1, n1, e1, e2, e3, e4⟩ := p.o.program p.r hT x q d sp hdl hsl
  obtain ⟨G2, f1, f2, f3⟩ := nand_programT (p.mid e4) (wf_same p.o.wf hB hP hS) x q d sp
  rw [progT_same hB hP hS] at f1 f2
  exact ⟨G1, G2, _, k1, n1, _, e1, e4, f1, p.both hM e2 e3 e4 f2 f3⟩
theorem PI.read (p : PI M h b a a2 R G s k T n) (hM : ∀ x, M x → ¬ a2.own x) (hB : a2.B = a.B) (hP : a2.P = a.P) (hS : a2.S = a.S) (hT : T + 2000 < 999999) (x q : Int) :
    ∃ G1 G2 k' n' e, host_Host_Read (some (h, 0)) x q G = some (e, G1) ∧ Keep (fun x => ¬ (M x ∨ a2.own x)) G G1 ∧ nand_Chip_Read (some (a2.c, 0)) x q G1 = some (e, G2) ∧ PI M h b a a2 R G2 s k' (T + (a.S : Int) + 50) n' := by
  obtain ⟨G1, k1, n1, e1, e2, e3, e4⟩ := p.o.read p.r hT x q
  obtain ⟨G2, f1, f2, f3⟩ := nand_readT (p.mid e4) (wf_same p.o.wf hB hP hS) x q
  rw [readT_same hB hP hS] at f1
  exact ⟨G1, G2, k1, n1, _, e1, e4, f1, p.both hM e2 e3 e4 f2 (f3.mono fun _ hh => hh.elim)⟩
theorem PI.power (p : PI M h b a a2 R G s k T n) (hM : ∀ x, M x → ¬ a2.own x) : ∃ G1 G2, nand_Chip_Power (some (a.c, 0)) G = some ((), G1) ∧ nand_Chip_Power (some (a2.c, 0)) G1 = some ((), G2) ∧ PI M h b a a2 R G2 { s with off := false } k T n := by
  obtain ⟨G1, e1, e2, e4⟩ := p.o.power
  obtain ⟨G2, f1, f2, f3⟩ := nand_power (p.mid e4)
  exact ⟨G1, G2, e1, f1, p.both hM e2 p.r e4 f2 f3⟩
end
/-- One act. -/
theorem plays_act {M : Nat → Prop} {h b : Nat} {a a2 : NdA} {R G : Heap} {s : Nd} {k : Bs} {T : Int} {n : Nat} {x2 : Sl} {rows : List (Tup actU)} {Hx Hy Hz : Heap} {i : Nat} {f1 : Bool} {g1 : ((Int × Int × Int × Unit) × Unit)}
    (p : PI M h b a a2 R G s k T n) (hM : ∀ x, M x → ¬ a2.own x) (hB : a2.B = a.B) (hP : a2.P = a.P) (hS : a2.S = a.S) (hb : 4 ≤ a.P ∧ a.P ≤ 11 ∧ 64 ≤ a.S ∧ a.S ≤ 127) (hT : T + 10000 < 999999)
    (hz : M Hz.length) (hzR : R[Hz.length]? = some (geoB (geoA a))) (hx2 : ∀ c o, x2.p = some (c, o) → M c) (hrow : Row R 4 x2 (rowsOf actU rows)) (lw : ∀ x ∈ rows, ∀ c ∈ Tup.mk actU x, wfC c) (hl : x2.len = rows.length) (hi : i < rows.length) (h25 : i < 25) :
    ∃ G' s' k' n', law32_HostPlays.s1 x2 ((some (a.c, 0), some (h, 0), f1, ()), Hx) ((some (a2.c, 0), 0, ()), Hy) (g1, Hz) ((i : Int), ()) G = some (.inl (((i + 1 : Nat) : Int), ()), G') ∧ PI M h b a a2 R G' s' k' (T + 3000) n' := by
  have hrowG : Row G 4 x2 (rowsOf actU rows) := hrow.keep p.kp fun c o hp hf => hf (hx2 c o hp)
  obtain ⟨cb, co, kd, x, q, u, c1, c2⟩ := act4_cell hrowG lw hi
  have w1 : wr (G ++ [Blk.cells [.int .i64 0, .int .i64 0, .int .i64 0, .int .u8 0] .exact]) G.length 0 [.int .i64 kd, .int .i64 x, .int .i64 q, .int .u8 (u.toNat : Int)] = some (G ++ [actB kd x q (u.toNat : Int)]) := by
    rw [wr_last (by decide) (by simp)]; rfl
  have c2' := c2
  have hpa := p.add (actB kd x q (u.toNat : Int))
  have hact : ∀ {A : Heap}, Keep (fun y => ¬ (M y ∨ y = G.length)) (G ++ [actB kd x q (u.toNat : Int)]) A → A[G.length]? = some (actB kd x q (u.toNat : Int)) := fun kk => kk.get app_last fun hh => hh (.inr rfl)
  have hact2 : ∀ {A : Heap}, Keep (fun y => ¬ ((M y ∨ y = G.length) ∨ a2.own y)) (G ++ [actB kd x q (u.toNat : Int)]) A → A[G.length]? = some (actB kd x q (u.toNat : Int)) := fun kk => kk.get app_last fun hh => hh (.inl (.inr rfl))
  have hM2 : ∀ y, (M y ∨ y = G.length) → ¬ a2.own y := fun y hy ho => by
    rcases hy with hy | hy
    · exact hM y hy ho
    · have := p.nd.own_lt ho; omega
  have hlen : (G ++ [actB kd x q (u.toNat : Int)]).length = G.length + 1 := by simp
  have hzG : (G ++ [actB kd x q (u.toNat : Int)])[Hz.length]? = some (geoB (geoA a)) := by
    have := p.kp.get hzR fun hh => hh hz
    rw [app_lt (get_lt this)]; exact this
  have rS : rdI .i64 (G ++ [actB kd x q (u.toNat : Int)]) Hz.length 2 = some (a.S : Int) := rdI_of hzG rfl
  have rk : ∀ {A : Heap}, A[G.length]? = some (actB kd x q (u.toNat : Int)) → rdI .i64 A G.length 0 = some kd := fun hA => rdI_of hA rfl
  have rx : ∀ {A : Heap}, A[G.length]? = some (actB kd x q (u.toNat : Int)) → rdI .i64 A G.length 1 = some x := fun hA => rdI_of hA rfl
  have rq : ∀ {A : Heap}, A[G.length]? = some (actB kd x q (u.toNat : Int)) → rdI .i64 A G.length 2 = some q := fun hA => rdI_of hA rfl
  have rf : rdI .u8 (G ++ [actB kd x q (u.toNat : Int)]) G.length 3 = some (u.toNat : Int) := rdI_of app_last rfl
  have ha0 : (G ++ [actB kd x q (u.toNat : Int)])[G.length]? = some (actB kd x q (u.toNat : Int)) := app_last
  have t1 := text32_eq a.S u (by omega)
  have hu1 : IntKind.wrap .u8 ((u.toNat : Int) + 1) = (((UInt8.ofNat ((u.toNat + 1) % 256)).toNat : Nat) : Int) := by
    rw [wrap_u8]
    have : (UInt8.ofNat ((u.toNat + 1) % 256)).toNat = (u.toNat + 1) % 256 := by simp
    rw [this]; omega
  have t2 : law32_text 32 (IntKind.wrap .u8 ((u.toNat : Int) + 1)) = some (List.replicate 32 (UInt8.ofNat ((u.toNat + 1) % 256)), ()) := by rw [hu1]; exact text32_eq 32 _ (by decide)
  generalize hdd : List.replicate a.S u = d at t1
  generalize hss : List.replicate 32 (UInt8.ofNat ((u.toNat + 1) % 256)) = sp at t2
  have hdl : d.length ≤ 127 := by rw [← hdd, List.length_replicate]; omega
  have hsl : sp.length = 32 := by rw [← hss, List.length_replicate]
  have hmul : (a.P : Int) * ((a.S : Int) + 60) ≤ 2057 := by
    have h1 : (a.P : Int) * ((a.S : Int) + 60) ≤ 11 * ((a.S : Int) + 60) := Int.mul_le_mul_of_nonneg_right (by omega) (by omega)
    have h2 : (11 : Int) * ((a.S : Int) + 60) ≤ 11 * 187 := by omega
    omega
  have hsm := p.o.wf.small
  have hd1 : decide ((i : Int) < (x2.len : Int)) = true := decide_eq_true (by omega)
  have hd2 : decide ((i : Int) < 25) = true := decide_eq_true (by omega)
  have hsu := wrap_succ (show i < 9223372036854775807 by omega)
  have back : ∀ {A : Heap} {s' : Nd} {k' : Bs} {n' : Nat}, PI (fun y => M y ∨ y = G.length) h b a a2 (G ++ [actB kd x q (u.toNat : Int)]) A s' k' (T + 3000) n' → PI M h b a a2 R A s' k' (T + 3000) n' := fun pp => pp.less (fun y hy => .inl hy) (p.kp.trans (Keep.push _ _ _))
  -- behind each act
  have tail : ∀ {A : Heap} {s' : Nd} {k' : Bs} {T' : Int} {n' : Nat}, PI (fun y => M y ∨ y = G.length) h b a a2 (G ++ [actB kd x q (u.toNat : Int)]) A s' k' T' n' → T' ≤ T + 2900 → ∃ A1 k1 n1, nand_Chip_Did (some (a.c, 0)) A = some ((s'.did, ()), A) ∧ nand_Chip_Did (some (a2.c, 0)) A = some ((s'.did, ()), A) ∧ nand_Chip_Off (some (a.c, 0)) A = some ((s'.off, ()), A) ∧ nand_Chip_Off (some (a2.c, 0)) A = some ((s'.off, ()), A) ∧
      host_Host_Marked (some (h, 0)) x A = some (s'.markedT a x, A1) ∧ nand_Chip_Marked (some (a2.c, 0)) x A1 = some (s'.markedT a x, A1) ∧ rdI .i64 A G.length 1 = some x ∧ rdI .i64 A1 G.length 1 = some x ∧ PI M h b a a2 R A1 s' k1 (T + 3000) n1 := by
    intro A s' k' T' n' pp hT'
    obtain ⟨A1, k1, n1, z1, z2, z3, z4, z5, z6, z7⟩ := pp.tail hM2 hB hP (by omega) x
    exact ⟨A1, k1, n1, z1, z2, z3, z4, z5, z6, rx (hact pp.kp), rx (hact z7.kp), back (z7.le (by omega) (by omega))⟩
  unfold law32_HostPlays.s1
  simp only [hd1, hd2, cond_t, c1, bind_some, c2', w1, rS, rf, t1, t2, rk ha0]
  by_cases k4 : kd = 4 ∨ kd = 5
  · obtain ⟨G1, G2, s', k', n', e, f1, f2, f3, f4⟩ := hpa.erase hM2 hB hP hS (by omega) x
    obtain ⟨A1, k1, n1, z1, z2, z3, z4, z5, z6, z7, z8, z9⟩ := tail f4 (by omega)
    refine ⟨A1, s', k1, n1, ?_, z9⟩
    rcases k4 with rfl | rfl
    · simp only [decide_true, cond_t, bind_some, rx ha0, f1, rx (hact2 f2), if_true, f3, Bool.not_true, cond_f, sum0, z1, z2, z3, z4, bool_beq, z7, z5, z8, z6, hsu]
    · simp only [show decide ((5 : Int) = 4) = false from rfl, cond_f, decide_true, cond_t, bind_some, rx ha0, f1, rx (hact2 f2), if_true, f3, Bool.not_true, sum0, z1, z2, z3, z4, bool_beq, z7, z5, z8, z6, hsu]
  · have d4 : decide (kd = 4) = false := decide_eq_false fun hh => k4 (.inl hh)
    have d5 : decide (kd = 5) = false := decide_eq_false fun hh => k4 (.inr hh)
    by_cases k6 : kd = 6
    · obtain ⟨G1, G2, s', k', n', e, f1, f2, f3, f4⟩ := hpa.mark hM2 hB hP hS (by omega) x
      obtain ⟨A1, k1, n1, z1, z2, z3, z4, z5, z6, z7, z8, z9⟩ := tail f4 (by omega)
      refine ⟨A1, s', k1, n1, ?_, z9⟩
      simp only [d4, d5, cond_f, bind_some, decide_eq_true k6, cond_t, rx ha0, f1, rx (hact2 f2), if_true, f3, decide_true, Bool.not_true, sum0, z1, z2, z3, z4, bool_beq, z7, z5, z8, z6, hsu]
    · by_cases k7 : kd = 7
      · obtain ⟨G1, G2, f1, f3, f4⟩ := hpa.power hM2
        obtain ⟨A1, k1, n1, z1, z2, z3, z4, z5, z6, z7, z8, z9⟩ := tail f4 (by omega)
        refine ⟨A1, _, k1, n1, ?_, z9⟩
        simp only [d4, d5, cond_f, bind_some, decide_eq_false k6, decide_eq_true k7, cond_t, f1, f3, decide_true, Bool.not_true, sum0, z1, z2, z3, z4, bool_beq, z7, z5, z8, z6, hsu]
      · by_cases k8 : kd = 8
        · obtain ⟨G1, G2, k', n', e, f1, f2, f3, f4⟩ := hpa.read hM2 hB hP hS (by omega) x q
          obtain ⟨A1, k1, n1, z1, z2, z3, z4, z5, z6, z7, z8, z9⟩ := tail f4 (by omega)
          refine ⟨A1, _, k1, n1, ?_, z9⟩
          simp only [d4, d5, cond_f, bind_some, decide_eq_false k6, decide_eq_false k7, decide_eq_true k8, cond_t, rx ha0, rq ha0, f1, rx (hact2 f2), rq (hact2 f2), f3, decide_true, Bool.not_true, sum0, z1, z2, z3, z4, bool_beq, z7, z5, z8, z6, hsu]
        · by_cases k9 : kd = 9
          · have hcat := cat_of (a := d) (b := [120]) (by simp; omega)
            obtain ⟨G1, G2, s', k', n', e, f1, f2, f3, f4⟩ := hpa.program hM2 hB hP hS (by omega) x q (d ++ [120]) sp (by rw [List.length_append]; show d.length + 1 < 100000; omega) (by omega)
            obtain ⟨A1, k1, n1, z1, z2, z3, z4, z5, z6, z7, z8, z9⟩ := tail f4 (by omega)
            refine ⟨A1, s', k1, n1, ?_, z9⟩
            simp only [d4, d5, cond_f, bind_some, decide_eq_false k6, decide_eq_false k7, decide_eq_false k8, decide_eq_true k9, cond_t, rx ha0, rq ha0, hcat, f1, rx (hact2 f2), rq (hact2 f2), if_true, f3, decide_true, Bool.not_true, sum0, z1, z2, z3, z4, bool_beq, z7, z5, z8, z6, hsu]
          · obtain ⟨G1, G2, s', k', n', e, f1, f2, f3, f4⟩ := hpa.program hM2 hB hP hS (by omega) x q d sp (by omega) (by omega)
            obtain ⟨A1, k1, n1, z1, z2, z3, z4, z5, z6, z7, z8, z9⟩ := tail f4 (by omega)
            refine ⟨A1, s', k1, n1, ?_, z9⟩
            simp only [d4, d5, cond_f, bind_some, decide_eq_false k6, decide_eq_false k7, decide_eq_false k8, decide_eq_false k9, rx ha0, rq ha0, f1, rx (hact2 f2), rq (hact2 f2), if_true, f3, decide_true, Bool.not_true, sum0, z1, z2, z3, z4, bool_beq, z7, z5, z8, z6, hsu]
theorem HostPlays_true (x0 : Geo) (x1 : Sl × Sl × Sl × Unit) (x2 : Sl) {A B C' H : Heap} (_ : ∀ c ∈ Tup.mk [.int .i64, .int .i64, .int .i64] x0, wfC c) (h0 : Came [.int .i64, .int .i64, .int .u8] [] x1.1 A) (h1 : Came [.int .i64] A x1.2.1 B) (h2 : Came [.int .i64] B x1.2.2.1 C') (h3 : Came [.int .i64, .int .i64, .int .i64, .int .u8] C' x2 H) : ∃ H', law32_HostPlays x0 x1 x2 H = some ((true, ()), H') := by
  unfold law32_HostPlays
  obtain ⟨t1, cuts, s1, w1, l1, v1⟩ := came_4 h0
  obtain ⟨t2, fails, s2, w2, l2, _⟩ := came_4 h1
  obtain ⟨t3, bad, s3, w3, l3, _⟩ := came_4 h2
  have s1 : Sl.sub 3 x1.1 0 (if 4 < (x1.1.len : Int) then 4 else (x1.1.len : Int)) (x1.1.cap : Int) = some t1 := s1
  have s2 : Sl.sub 1 x1.2.1 0 (if 4 < (x1.2.1.len : Int) then 4 else (x1.2.1.len : Int)) (x1.2.1.cap : Int) = some t2 := s2
  have s3 : Sl.sub 1 x1.2.2.1 0 (if 4 < (x1.2.2.1.len : Int) then 4 else (x1.2.2.1.len : Int)) (x1.2.2.1.cap : Int) = some t3 := s3
  obtain ⟨rows, lr, ll, lw, lb⟩ := came_rows h3
  have lr : Row H 4 x2 (rowsOf actU rows) := lr
  let gB : Blk := .cells [.int .i64 x0.1, .int .i64 x0.2.1, .int .i64 x0.2.2.1] .exact
  let fB : Blk := .cells [.sl 3 x1.1, .sl 1 x1.2.1, .sl 1 x1.2.2.1] .exact
  let uB : Blk := .cells [.sl 3 t1, .sl 1 t2, .sl 1 t3] .exact
  let H1 : Heap := H ++ [gB]
  let H2 : Heap := H1 ++ [fB]
  let H13 : Heap := H2 ++ [uB]
  have e1 : H1.length = H.length + 1 := by simp [H1]
  have e2 : H2.length = H.length + 2 := by simp [H2, H1]
  have e13 : H13.length = H.length + 3 := by simp [H13, H2, H1]
  have q1 : H ++ [Blk.cells [.int .i64 x0.1, .int .i64 x0.2.1, .int .i64 x0.2.2.1] .exact] = H1 := rfl
  have q2 : H1 ++ [Blk.cells [.sl 3 x1.1, .sl 1 x1.2.1, .sl 1 x1.2.2.1] .exact] = H2 := rfl
  have hf2 : H2[H1.length]? = some fB := app_last
  have b0 : rdSl 3 H2 H1.length 0 = some x1.1 := rdSl_of hf2 rfl
  have b1 : rdSl 1 H2 H1.length 1 = some x1.2.1 := rdSl_of hf2 rfl
  have b2 : rdSl 1 H2 H1.length 2 = some x1.2.2.1 := rdSl_of hf2 rfl
  have w13 : wr (H2 ++ [Blk.cells [.sl 3 Sl.nil, .sl 1 Sl.nil, .sl 1 Sl.nil] .exact]) H2.length 0 [.sl 3 t1, .sl 1 t2, .sl 1 t3] = some H13 := by
    rw [wr_last (by decide) (by simp)]; rfl
  have hgb : H13[H.length]? = some gB := by rw [app_lt (by omega), app_lt (by omega)]; exact app_last
  have hub : H13[H2.length]? = some uB := app_last
  have r1 : @Eq (Option Geo) (rd H13 (.agg [.int .i64, .int .i64, .int .i64]) H.length 0) (some x0) := rd_geo (g := x0) hgb
  have rf : ∀ {G : Heap}, G[H2.length]? = some uB → @Eq (Option (Sl × Sl × Sl × Unit)) (rd G (.agg [.sl 3, .sl 1, .sl 1]) H2.length 0) (some (t1, t2, t3, ())) := fun hG => by
    refine rd_agg_of hG (by simp) ?_
    simp [Tup.un, CT.un]
    rfl
  have kc := came_stay h1
  have kd := came_stay h2
  have ke := came_stay h3
  have kp : Keep (fun _ => False) H H13 := ((Keep.push _ _ _).trans (Keep.push _ _ _)).trans (Keep.push _ _ _)
  have no : ∀ {s : Sl} (b o : Nat), s.p = some (b, o) → ¬ False := fun _ _ _ => id
  have w1' : Row H13 3 t1 (cutC cuts) := w1.keep (((kc.trans kd).trans ke).trans kp) no
  have w2' : Row H13 1 t2 (intC (fails.map fun x => x.1)) := by rw [← rows_int]; exact w2.keep ((kd.trans ke).trans kp) no
  have w3' : Row H13 1 t3 (intC (bad.map fun x => x.1)) := by rw [← rows_int]; exact w3.keep (ke.trans kp) no
  have hc1 : cuts.length ≤ 1099511627776 := Nat.le_trans l1 (by decide)
  have hc2 : (fails.map fun x => x.1).length ≤ 1099511627776 := Nat.le_trans (Nat.le_of_eq (List.length_map _)) (by omega)
  have hc3 : (bad.map fun x => x.1).length ≤ 1099511627776 := Nat.le_trans (Nat.le_of_eq (List.length_map _)) (by omega)
  have hbb : ∀ f : Int, wfC (.int .u8 f) → 0 ≤ f ∧ f < 256 := fun f hf => by
    have h' : 0 ≤ f ∧ f ≤ 255 := hf
    omega
  have hfi : ∀ x : Cut, List.Mem x cuts → 0 ≤ x.2.2.1 ∧ x.2.2.1 < 256 := fun x hx => hbb _ (v1 x hx (.int .u8 x.2.2.1) (by simp [Tup.mk, CT.mk]))
  obtain ⟨R, a, h, b, k, n, p1, p2, p3, p4, p5, p6, hB0, hB1, hP0, hP1, hS0, hS1⟩ := begun32 (H := H13) x0 w1' w2' w3' hc1 hc2 hc3 hfi
  have nlt : ∀ {x : Nat}, x < H13.length → ¬ ¬ x < H13.length := fun hx hh => hh hx
  have r2 : @Eq (Option Geo) (rd R (.agg [.int .i64, .int .i64, .int .i64]) H.length 0) (some x0) := rd_geo (g := x0) (p5.get hgb (nlt (by omega)))
  have hubR := p5.get hub (nlt (by omega))
  obtain ⟨R2, g1, g2⟩ := geometry_eq x0 R
  rw [p6] at g1
  have hubR2 := g2.get hubR id
  obtain ⟨B', P', S', hsh, _, _, _, _, _, _, hok⟩ := shape_nat x0
  rw [← hsh, p6] at hok
  have krow : Keep (fun x => ¬ x < H13.length) H13 R2 := p5.trans (g2.mono fun _ hh => hh.elim)
  have noR : ∀ {s : Sl} {cs : List C} {es : Nat}, Row H13 es s cs → ∀ c o, s.p = some (c, o) → ¬ ¬ c < H13.length := fun hr c o hp hh => hh (hr.lt hp)
  obtain ⟨R3, a2, n1, n2, n3, nB, nP, nS, n4⟩ := new_yes (B := a.B) (P := a.P) (S := a.S) (f := (t1, t2, t3, ())) (cuts := cuts) (fails := fails.map fun x => x.1) (bad := bad.map fun x => x.1) R2 hok (w1'.keep krow (noR w1')) (w2'.keep krow (noR w2')) (w3'.keep krow (noR w3')) hc1 hc2 hc3
  have o3 := (p2.none g2).none n3
  obtain ⟨R4, m1, m2, m3⟩ := nand_geometry o3.bg.nd
  have o4 := o3.none m3
  have nd4 := n2.keep m3 fun _ _ => id
  have w25 : wr (R4 ++ [Blk.cells [.int .i64 0, .int .i64 0, .int .i64 0] .exact]) R4.length 0 [.int .i64 (a.B : Int), .int .i64 (a.P : Int), .int .i64 (a.S : Int)] = some (R4 ++ [geoB (geoA a)]) := by
    rw [wr_last (by decide) (by simp)]; rfl
  have k13 : Keep (fun x => ¬ x < H13.length) H13 (R4 ++ [geoB (geoA a)]) := ((krow.trans (n3.mono fun _ hh => hh.elim)).trans (m3.mono fun _ hh => hh.elim)).trans (Keep.push _ _ _)
  have hR2 := krow.len
  have hR3 := n3.len
  have hR4 := m3.len
  have hown : ∀ x, a2.own x → R2.length ≤ x ∧ x < R3.length := fun x hx => ⟨n4 x hx, n2.own_lt hx⟩
  have o5 : Ho (R4 ++ [geoB (geoA a)]) (fun x => (x < H13.length ∨ x = R4.length) ∨ a2.own x) h b a (Nd.new cuts (fails.map fun x => x.1) (bad.map fun x => x.1)) k 100 n := by
    have o0 : Ho (R4 ++ [geoB (geoA a)]) (fun x => (x < H13.length ∨ x = R4.length) ∨ a2.own x) h b a (Nd.new cuts (fails.map fun x => x.1) (bad.map fun x => x.1)) k 100 n := (p2.none g2).grow ((n3.trans m3).trans (Keep.push _ _ _)) fun x hx => by
      have hl : (R4 ++ [geoB (geoA a)]).length = R4.length + 1 := by simp
      rcases hx with (hx | hx) | hx
      · exact ⟨.inl hx, by omega⟩
      · exact ⟨.inr (by omega), by omega⟩
      · have := hown x hx; exact ⟨.inr this.1, by omega⟩
    exact o0
  have hM : ∀ x, (x < H13.length ∨ x = R4.length) → ¬ a2.own x := fun x hx ho => by
    have := hown x ho
    rcases hx with hx | hx <;> omega
  have pi0 : PI (fun x => x < H13.length ∨ x = R4.length) h b a a2 (R4 ++ [geoB (geoA a)]) (R4 ++ [geoB (geoA a)]) _ k 100 n := ⟨o5, p3, nd4.push _, Keep.refl _ _⟩
  have hrow5 : Row (R4 ++ [geoB (geoA a)]) 4 x2 (rowsOf actU rows) := (lr.keep kp no).keep k13 fun c o hp hh => hh (by have := lr.lt hp; omega)
  obtain ⟨y, Z, u1, rfl⟩ := loop_rise (step := law32_HostPlays.s1 x2 ((some (a.c, 0), some (h, 0), true, ()), R) ((some (a2.c, 0), 0, ()), R3) ((((a.B : Int), (a.P : Int), (a.S : Int), ()), ()), R4)) (min rows.length 25)
    (fun i t G => t = ((i : Int), ()) ∧ ∃ s k n, PI (fun x => x < H13.length ∨ x = R4.length) h b a a2 (R4 ++ [geoB (geoA a)]) G s k (100 + 3000 * i) n)
    (fun y _ => y = .inl ())
    (by
      rintro i _ G hi ⟨rfl, s, k, n, pi⟩
      obtain ⟨G', s', k', n', z1, z2⟩ := plays_act (x2 := x2) (rows := rows) (Hx := R) (Hy := R3) (Hz := R4) (i := i) (f1 := true) (g1 := (((a.B : Int), (a.P : Int), (a.S : Int), ()), ())) pi hM nB nP nS (by omega) (by omega) (.inr rfl) app_last (fun c o hp => .inl (by have := lr.lt hp; omega)) hrow5 lw ll (by omega) (by omega)
      exact .inl ⟨_, G', z1, rfl, s', k', n', by rw [show (100 + 3000 * ((i + 1 : Nat) : Int)) = 100 + 3000 * (i : Int) + 3000 by omega]; exact z2⟩)
    (by
      rintro _ G ⟨rfl, s, k, n, pi⟩
      refine ⟨.inl (), G, ?_, rfl⟩
      unfold law32_HostPlays.s1
      by_cases hle : rows.length ≤ 25
      · have d1 : decide (((min rows.length 25 : Nat) : Int) < (x2.len : Int)) = false := decide_eq_false (by omega)
        simp only [d1, cond_f]
      · have d1 : decide (((min rows.length 25 : Nat) : Int) < (x2.len : Int)) = true := decide_eq_true (by omega)
        have d2 : decide (((min rows.length 25 : Nat) : Int) < 25) = false := decide_eq_false (by omega)
        simp only [d1, cond_t, d2, cond_f])
    (y := (((0 : Nat) : Int), ())) ⟨rfl, _, k, n, by rw [show (100 + 3000 * ((0 : Nat) : Int)) = 100 by omega]; exact pi0⟩
  have u1' : loopW (law32_HostPlays.s1 x2 ((some (a.c, 0), some (h, 0), true, ()), R) ((some (a2.c, 0), 0, ()), R3) ((((a.B : Int), (a.P : Int), (a.S : Int), ()), ()), R4)) (0, ()) (R4 ++ [geoB (geoA a)]) = some (.inl (), Z) := u1
  refine ⟨Z, ?_⟩
  have eg : (x0.1, x0.2.1, x0.2.2.1, ()) = x0 := rfl
  simp only [q1, q2, b0, b1, b2, bind_some, s1, s2, s3, w13, r1, rf hub, eg, p1, r2, rf hubR, g1, rf hubR2, if_true, n1, awake32, Bool.not_true, cond_f, decide_true, m1, w25, u1', sum0]
end Ev
