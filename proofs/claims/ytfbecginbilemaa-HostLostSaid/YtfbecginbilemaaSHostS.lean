/- Chapter 32: HostLost. -/
import Derived.Test.YtfbecginbilemaaSHostR
namespace Ev
open Go (IntKind)

theorem lost_join {x0 x : Bytes} {p : Sl} {cap : Nat} {G R H1 : Heap} {c : Nat} {g : Geo} {c0 c1 c2 c3 : Bool} (hx : x.length = 72)
    (q1 : ([] : Heap) ++ [Blk.cells (cellsOf x0) .loose] = H1)
    (l1 : loopW law32_HostLost.s1 (⟨some (([] : Heap).length, 0), (List.length (x0 : Bytes)), (List.length (x0 : Bytes))⟩, ()) H1 = some ((p, ()), G)) (hs : Sl.sub 1 p 0 72 (p.cap : Int) = some ⟨some (c, 0), 72, cap⟩) (hst : strOf G ⟨some (c, 0), 72, cap⟩ = some x)
    (l2 : loopW (law32_HostLost.s2 x (⟨some (G.length, 0), 24, 24⟩, G ++ [.cells (cellsOf (List.replicate 24 0)) .exact])) (0, ()) (G ++ [.cells (cellsOf (List.replicate 24 0)) .exact]) = some ((), R))
    (hm : strOf (R ++ [geoB g]) ⟨some (G.length, 0), 24, 24⟩ = some (majB x)) (hp : host_Params x = some (g, (c0 || (c1 || (c2 || c3))), ())) (h0 : law32_right (cpy x 0) = some (c0, ())) (h1 : law32_right (cpy x 1) = some (c1, ())) (h2 : law32_right (cpy x 2) = some (c2, ())) (h3 : law32_right (majB x) = some (c3, ()))
    (hz : (c0 || (c1 || (c2 || c3))) = false → g = (0, 0, 0, ())) : law32_HostLost.on x0 [] = some (true, ()) := by
  have hmk : mkS G 1 [.int .u8 0] 24 24 = some (⟨some (G.length, 0), 24, 24⟩, G ++ [.cells (cellsOf (List.replicate 24 0)) .exact]) := mkS_u8 (H := G) (n := 24) (by decide)
  have hpush : wr (R ++ [Blk.cells [.int .i64 0, .int .i64 0, .int .i64 0] .exact]) R.length 0 [.int .i64 g.1, .int .i64 g.2.1, .int .i64 g.2.2.1] = some (R ++ [geoB g]) := by
    rw [wr_last (by decide) (by simp)]; rfl
  have s0 : subS x 0 24 = some (cpy x 0) := sub_of (s := x) (lo := 0) (hi := 24) (by decide) (by omega)
  have s1 : subS x 24 48 = some (cpy x 1) := sub_of (s := x) (lo := 24) (hi := 48) (by decide) (by omega)
  have s2 : subS x 48 (x.length : Int) = some (cpy x 2) := by rw [hx]; exact sub_of (s := x) (lo := 48) (hi := 72) (by decide) (by omega)
  have hr : @Eq (Option Geo) (rd (R ++ [geoB g]) (.agg [.int .i64, .int .i64, .int .i64]) R.length 0) (some g) := rd_geo app_last
  unfold law32_HostLost.on
  simp only [q1, l1, bind_some, hs, hst, hmk, l2, hp, hpush, s0, s1, s2, h0, h1, h2, hm, h3, awake32, cond_t]
  cases c0 with
  | true => rfl
  | false =>
    cases c1 with
    | true => rfl
    | false =>
      cases c2 with
      | true => rfl
      | false =>
        cases c3 with
        | true => rfl
        | false =>
          have hg := hz rfl
          subst hg
          simp only [cond_f, bind_some, Bool.or_false, beq_self_eq_true, cond_t, hr, decide_true, Bool.and_true]
theorem HostLost_true (x0 : Bytes) (hx0 : x0.length ≤ 140737488351232) : law32_HostLost x0 = some (true, ()) := by
  unfold law32_HostLost
  have g0 : Grown [Blk.cells (cellsOf x0) .loose] 1 ⟨some (0, 0), x0.length, x0.length⟩ (cellsOf x0) := ⟨rfl, (by rw [cells_len]; show x0.length = x0.length * 1; omega), fun hh => (by cases hh), fun a ha => (by cases ha; exact ⟨rfl, .inl rfl⟩)⟩
  obtain ⟨y, G, l1, sl, t, rfl, gt, ht⟩ := loop_rise (step := law32_HostLost.s1) (72 - x0.length) (fun i z G => ∃ sl t, z = (sl, ()) ∧ Grown G 1 sl (cellsOf t) ∧ t.length = x0.length + i) (fun y G => ∃ sl t, y = (sl, ()) ∧ Grown G 1 sl (cellsOf t) ∧ 72 ≤ t.length)
    (by
      rintro i _ G hi ⟨sl, t, rfl, gt, ht⟩
      have hl : sl.len = t.length := by have := gt.len; rw [cells_len] at this; omega
      have gp := gt.push (.cells [.int .u8 (IntKind.wrap .u8 (sl.len : Int))] .exact)
      obtain ⟨a1, a2⟩ := gp.app (bytes := 1) (by decide) (n := 1) (new := [.int .u8 (IntKind.wrap .u8 (sl.len : Int))]) (by decide) rfl (by omega) (by omega)
      have hu : IntKind.wrap .u8 (sl.len : Int) = (((UInt8.ofNat (sl.len % 256)).toNat : Nat) : Int) := by
        rw [wrap_u8]
        have : (UInt8.ofNat (sl.len % 256)).toNat = sl.len % 256 := by simp
        rw [this]; omega
      have hc : cellsOf t ++ [C.int .u8 (IntKind.wrap .u8 (sl.len : Int))] = cellsOf (t ++ [UInt8.ofNat (sl.len % 256)]) := by rw [hu]; exact cells_snoc _ _
      rw [hc] at a1 a2
      have hr : slRow (G ++ [.cells [.int .u8 (IntKind.wrap .u8 (sl.len : Int))] .exact]) 1 ⟨some (G.length, 0), 1, 1⟩ = some [.int .u8 (IntKind.wrap .u8 (sl.len : Int))] := row_last rfl
      refine .inl ⟨(_, ()), _, ?_, _, _, rfl, a2, by rw [List.length_append]; show t.length + 1 = _; omega⟩
      unfold law32_HostLost.s1
      simp only [decide_eq_true (show (sl.len : Int) < 72 by omega), cond_t, hr, bind_some, a1])
    (by
      rintro _ G ⟨sl, t, rfl, gt, ht⟩
      have hl : sl.len = t.length := by have := gt.len; rw [cells_len] at this; omega
      refine ⟨(sl, ()), G, ?_, sl, t, rfl, gt, by omega⟩
      unfold law32_HostLost.s1
      simp only [decide_eq_false (show ¬ (sl.len : Int) < 72 by omega), cond_f])
    (y := (⟨some (0, 0), x0.length, x0.length⟩, ())) (H := [Blk.cells (cellsOf x0) .loose]) ⟨_, x0, rfl, g0, by omega⟩
  have hl : sl.len = t.length := by have := gt.len; rw [cells_len] at this; omega
  obtain ⟨p, len, cap⟩ := sl
  have hcap : cap = len := gt.cap
  have hlen : len = t.length := hl
  subst hcap
  cases p with
  | none => have : cap = 0 := gt.nil rfl; omega
  | some c =>
    obtain ⟨c, o⟩ := c
    obtain ⟨ho, hb⟩ := gt.blk _ rfl
    have ho' : o = 0 := ho
    subst ho'
    obtain ⟨bk, hbk⟩ : ∃ bk, G[c]? = some (.cells (cellsOf t) bk) := by
      rcases hb with hb | hb
      · exact ⟨_, hb⟩
      · exact ⟨_, hb⟩
    have hs : Sl.sub 1 ⟨some (c, 0), cap, cap⟩ 0 72 (cap : Int) = some ⟨some (c, 0), 72, cap⟩ := sub_ok (b := c) (o := 0) (len := cap) (cap := cap) (lo := 0) (hi := 72) (by decide) (by omega)
    have hst : strOf G ⟨some (c, 0), 72, cap⟩ = some (t.take 72) := strOf_of hbk (by rw [cells_len]; omega) (by rw [List.drop_zero, cells_take])
    have hx : (t.take 72).length = 72 := by rw [List.length_take]; omega
    generalize t.take 72 = x at hst hx
    obtain ⟨y, R, l2, l3⟩ := loop_rise (step := law32_HostLost.s2 x (⟨some (G.length, 0), 24, 24⟩, G ++ [.cells (cellsOf (List.replicate 24 0)) .exact])) 24
      (fun i z R => z = ((i : Int), ()) ∧ R[G.length]? = some (.cells (cellsOf (majN x i ++ List.replicate (24 - i) 0)) .exact)) (fun _ R => R[G.length]? = some (.cells (cellsOf (majN x 24 ++ List.replicate (24 - 24) 0)) .exact))
      (by
        rintro i _ R hi ⟨rfl, hc⟩
        have hat : Sl.at 1 ⟨some (G.length, 0), 24, 24⟩ (i : Int) = some (G.length, i) := by rw [at_of (by omega) (by show (i : Int) < ((24 : Nat) : Int); omega), Int.toNat_natCast, Nat.mul_one, Nat.zero_add]
        have e1 : IntKind.wrap .i64 ((i : Int) + 24) = ((i + 24 : Nat) : Int) := by rw [wrap_i64 (by omega) (by omega)]; omega
        have e2 : IntKind.wrap .i64 ((i : Int) + 48) = ((i + 48 : Nat) : Int) := by rw [wrap_i64 (by omega) (by omega)]; omega
        have w1 := maj_wr x hi hc
        unfold majV at w1
        refine .inl ⟨(((i + 1 : Nat) : Int), ()), _, ?_, rfl, set_get (get_lt hc)⟩
        unfold law32_HostLost.s2
        simp only [decide_eq_true (show (i : Int) < 24 by omega), cond_t, idx_at (show i < x.length by omega), bind_some, e1, e2, idx_at (show i + 24 < x.length by omega), idx_at (show i + 48 < x.length by omega), hat, w1, wrap_succ (show i < 9223372036854775807 by omega)])
      (by
        rintro _ R ⟨rfl, hc⟩
        refine ⟨(), R, ?_, hc⟩
        unfold law32_HostLost.s2
        simp only [decide_eq_false (show ¬ ((24 : Nat) : Int) < 24 by decide), cond_f])
      (y := (((0 : Nat) : Int), ())) ⟨rfl, app_last⟩
    obtain ⟨g, hp, _, hz⟩ := host_Params_eq x hx
    have hm : strOf (R ++ [geoB g]) ⟨some (G.length, 0), 24, 24⟩ = some (majB x) := maj_str x (by rw [app_lt (get_lt l3)]; exact l3)
    exact lost_join hx rfl l1 hs hst l2 hm hp (right_eq _ (cpy_length x hx (by decide))) (right_eq _ (cpy_length x hx (by decide))) (right_eq _ (cpy_length x hx (by decide))) (right_eq _ (majN_length x 24)) hz
end Ev
