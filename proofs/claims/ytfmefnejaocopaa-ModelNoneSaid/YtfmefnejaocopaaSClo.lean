/- Spaces that are cloned, one by one. -/
import Derived.Test.YtfmefnejaocopaaSStF
set_option linter.unusedSimpArgs false
set_option linter.unusedVariables false
namespace Ev
open Go (IntKind)

/-- Where a clone lies, in the order l. -/
def cloP (N0 : Nat) (l : List Int) (k : Int) : Nat := N0 + (kpos (fun _ => 2) l k + 1)
def cloR {β : Type} (N0 : Nat) (g : Int → β → W) (P : Int → List (Int × β)) (sp : List (Int × Int × Bool)) (l : List Int) (k : Int) : List Blk :=
  [.cells [.int .i64 ((afind sp k).getD (0, false)).1, .bool ((afind sp k).getD (0, false)).2, .mp (some (cloP N0 l k))] .exact, .mp (encA g (P k)) 0]
/-- The spaces of a list. -/
def spL (sp : List (Int × Int × Bool)) (l : List Int) : List (Int × Int × Bool) := sp.filter fun x => decide (x.1 ∈ l)
theorem spL_asc {sp : List (Int × Int × Bool)} (h : Asc sp) (l : List Int) : Asc (spL sp l) := h.sub List.filter_sublist
theorem spL_find {sp : List (Int × Int × Bool)} (h : Asc sp) (l : List Int) (k : Int) : afind (spL sp l) k = if k ∈ l then afind sp k else none := by
  cases hf : afind (spL sp l) k with
  | some v =>
    have := List.mem_filter.1 (afind_mem hf)
    rw [if_pos (of_decide_eq_true this.2), h.find this.1]
  | none =>
    by_cases e : k ∈ l
    · rw [if_pos e]
      cases hs : afind sp k with
      | none => rfl
      | some v =>
        have := (spL_asc h l).find (List.mem_filter.2 ⟨afind_mem hs, decide_eq_true e⟩)
        rw [hf] at this; cases this
    · rw [if_neg e]
theorem clone_loop {β : Type} {g : Int → β → W} (hg : ∀ (π : Nat → Nat) (j : Int) (v : β), (g j v).ren π = g j v) {H0 : Heap} {m N : Nat} {pg : Int → Nat} {sp : List (Int × Int × Bool)} (hsp : Asc sp) {P : Int → List (Int × β)} (hm : MpA H0 m (spW pg) sp)
    (hP : ∀ id x, afind sp id = some x → MpA H0 (pg id) g (P id)) (hN : H0[N]? = some (.mp [] 0)) (hne : m ≠ N) (hpn : ∀ id x, afind sp id = some x → pg id ≠ N) {step : Int → Unit → Heap → Option (Unit × Heap)}
    (hstep : ∀ k x G, afind sp k = some x → MpA G m (spW pg) sp → MpA G (pg k) g (P k) → (∀ b, b < H0.length → b ≠ N → G[b]? = H0[b]?) → H0.length ≤ G.length →
      step k () G = (mset (G ++ [.cells [.int .i64 x.1, .bool x.2, .mp (some (G.length + 1))] .exact, .mp (encA g (P k)) 0]) (some N) k (.agg [.int .i64 x.1, .bool x.2, .mp (some (G.length + 1))])).bind fun H' => some ((), H')) :
    ∃ G pg', eachW step (some m) () H0 = some ((), G) ∧ (∀ b, b < H0.length → b ≠ N → G[b]? = H0[b]?) ∧ H0.length ≤ G.length ∧ MpA G N (spW pg') sp ∧ (∀ id x, afind sp id = some x → MpA G (pg' id) g (P id) ∧ H0.length ≤ pg' id) ∧
      ∀ id x id' x', afind sp id = some x → afind sp id' = some x' → pg' id = pg' id' → id = id' := by
  have hNl := get_lt hN
  have hin : ∀ {k : Int}, k ∈ sp.map Prod.fst → ∃ x, afind sp k = some x := fun hk => Option.isSome_iff_exists.1 (afind_isSome.2 hk)
  let F : List Int → Heap := fun l => H0.set N (.mp (encA (spW (cloP H0.length l)) (spL sp l)) 0) ++ rowsK (cloR H0.length g P sp l) l
  have hF : ∀ l, F l = H0.set N (.mp (encA (spW (cloP H0.length l)) (spL sp l)) 0) ++ rowsK (cloR H0.length g P sp l) l := fun _ => rfl
  have hR : ∀ l k, (cloR H0.length g P sp l k).length = (fun _ : Int => 2) k := fun _ _ => rfl
  have hRl : ∀ l l', (rowsK (cloR H0.length g P sp l) l').length = 2 * l'.length := fun l l' => by
    rw [rowsK_len _ _ (hR l)]
    induction l' with
    | nil => rfl
    | cons x l' ih => rw [ktot, ih, List.length_cons]; omega
  have hlow : ∀ l b, b < H0.length → b ≠ N → (F l)[b]? = H0[b]? := fun l b hb hbn => by rw [hF, List.getElem?_append_left (by simpa using hb), set_get' (Ne.symm hbn)]
  have hFN : ∀ l, (F l)[N]? = some (.mp (encA (spW (cloP H0.length l)) (spL sp l)) 0) := fun l => by rw [hF, List.getElem?_append_left (by simpa using hNl), set_get hNl]
  have hkt : ∀ l : List Int, ktot (fun _ => 2) l = 2 * l.length := fun l => by
    induction l with
    | nil => rfl
    | cons x l' ih => rw [ktot, ih, List.length_cons]; omega
  have hF0 : F [] = H0 := by
    rw [hF]
    have e : spL sp [] = [] := by unfold spL; rw [List.filter_eq_nil_iff]; intro x _ hh; simp at hh
    rw [e]
    show H0.set N (.mp [] 0) ++ [] = H0
    rw [List.append_nil, set_same hN]
  have hrow : ∀ l k j, k ∈ l → j < 2 → (F l)[H0.length + (kpos (fun _ => 2) l k + j)]? = (cloR H0.length g P sp l k)[j]? := fun l k j hk hj => by
    rw [hF, List.getElem?_append_right (by simp), List.length_set, Nat.add_sub_cancel_left, rowsK_get (fun _ => 2) _ (hR l) hk hj]
  obtain ⟨dc, hhd⟩ := hm.head
  have hmF : ∀ l, MpA (F l) m (spW pg) sp ∧ (F l).mpAt m = H0.mpAt m := fun l => by
    have e := hlow l m hm.lt hne
    exact ⟨by obtain ⟨dc, hd⟩ := hm; exact ⟨dc, by rw [e]; exact hd⟩, by unfold Heap.mpAt; rw [e]⟩
  have hFl : ∀ l, (F l).length = H0.length + 2 * l.length := fun l => by rw [hF, List.length_append, List.length_set, hRl]
  have hall : spL sp (sp.map Prod.fst) = sp := List.filter_eq_self.2 fun x hx => decide_eq_true (List.mem_map.2 ⟨x, hx, rfl⟩)
  refine ⟨F (sp.map Prod.fst), cloP H0.length (sp.map Prod.fst), ?_, hlow _, by rw [hFl]; omega, ⟨0, by rw [hFN, hall]⟩, fun id x hx => ?_, fun id x id' x' hx hx' e => ?_⟩
  · refine eachW_of (ks := sp.map Prod.fst) hm.keys hhd (keys_nodup hsp) (fun _ => ()) F rfl hF0 (fun l k hl hn hk hkl => ⟨?_, ?_⟩) (fun l hl => ⟨rfl, ?_⟩)
    · obtain ⟨x, hx⟩ := hin hk
      have hpl : MpA (F l) (pg k) g (P k) := by
        obtain ⟨dp, hd⟩ := hP k x hx
        exact ⟨dp, by rw [hlow l _ (get_lt hd) (hpn k x hx)]; exact hd⟩
      rw [hstep k x (F l) hx (hmF l).1 hpl (hlow l) (by rw [hFl]; omega)]
      have hNF : (F l ++ [.cells [.int .i64 x.1, .bool x.2, .mp (some ((F l).length + 1))] .exact, .mp (encA g (P k)) 0])[N]? = some (.mp (encA (spW (cloP H0.length (l ++ [k]))) (spL sp l)) 0) := by
        have e0 : encA (spW (cloP H0.length l)) (spL sp l) = encA (spW (cloP H0.length (l ++ [k]))) (spL sp l) := enc_congr fun y hy => by
          have hyl := of_decide_eq_true (List.mem_filter.1 hy).2
          unfold spW cloP
          rw [kpos_left _ hyl]
        rw [List.getElem?_append_left (by rw [hFl]; omega), hFN, e0]
      have hpk : (F l).length + 1 = cloP H0.length (l ++ [k]) k := by
        unfold cloP
        rw [kpos_append _ hkl, hkt, hFl]; omega
      have hset := mset_of hNF k x (w := .agg [.int .i64 x.1, .bool x.2, .mp (some ((F l).length + 1))]) (by unfold spW; rw [hpk])
      simp only [hset, Option.bind_some]
      refine congrArg (fun G => some ((), G)) ?_
      have hsl : ains (spL sp l) k x = spL sp (l ++ [k]) := asc_ext ((spL_asc hsp l).ins _ _) (spL_asc hsp _) fun k' => by
        rw [afind_ins (spL_asc hsp l), spL_find hsp, spL_find hsp]
        by_cases e : k' = k
        · rw [if_pos e, e, if_pos (by simp), hx]
        · rw [if_neg e]
          by_cases e2 : k' ∈ l
          · rw [if_pos e2, if_pos (by simp [e2])]
          · rw [if_neg e2, if_neg (by simp [e, e2])]
      rw [hsl, hpk, hF, hF, List.append_assoc, List.set_append_left _ _ (by simpa using hNl), List.set_set, rowsK_snoc]
      congr 1
      have e1 : rowsK (cloR H0.length g P sp (l ++ [k])) l = rowsK (cloR H0.length g P sp l) l := by
        exact congrArg List.flatten (List.map_congr_left fun y hy => by unfold cloR cloP; rw [kpos_left _ hy])
      rw [e1]
      congr 1
      unfold cloR
      rw [hx]; rfl
    · simp only [mhead, Option.bind_some, (hmF (l ++ [k])).2]
      exact hhd
    · have hnd := hl.nodup_iff.2 (keys_nodup hsp)
      have hkr : ∀ k ∈ l, kren (fun _ => 2) H0.length l (sp.map Prod.fst) (cloP H0.length l k) = cloP H0.length (sp.map Prod.fst) k := fun k hk => kren_at (fun _ => 2) hk (by omega)
      refine alike_rows (fun _ => 2) hl hnd (List.length_set ..) (List.length_set ..) _ _ (rowsK_len _ _ (hR _) _) (rowsK_len _ _ (hR _) _) (fun b hb => ?_) (fun k hk j hj => ?_)
      · by_cases e : b = N
        · subst e
          left
          rw [set_get hNl, set_get hNl, hall, show spL sp l = sp from List.filter_eq_self.2 fun x hx => decide_eq_true (hl.symm.subset (List.mem_map.2 ⟨x, hx, rfl⟩))]
          show some (Blk.mp _ 0) = some (Blk.mp ((encA (spW (cloP H0.length l)) sp).map fun x : Int × W => (x.1, W.ren (kren (fun _ => 2) H0.length l (sp.map Prod.fst)) x.2)) 0)
          unfold encA
          rw [List.map_map]
          congr 2
          refine List.map_congr_left fun x hx => ?_
          show (x.1, spW (cloP H0.length (sp.map Prod.fst)) x.1 x.2) = (x.1, W.ren (kren (fun _ => 2) H0.length l (sp.map Prod.fst)) (spW (cloP H0.length l) x.1 x.2))
          unfold spW
          show _ = (x.1, W.agg [.int .i64 x.2.1, .bool x.2.2, .mp (some (kren (fun _ => 2) H0.length l (sp.map Prod.fst) (cloP H0.length l x.1)))])
          rw [hkr x.1 (hl.symm.subset (List.mem_map.2 ⟨x, hx, rfl⟩))]
        · right
          rw [set_get' (Ne.symm e), set_get' (Ne.symm e)]; exact ⟨rfl, rfl⟩
      · rw [rowsK_get (fun _ => 2) _ (hR _) (hl.subset hk) hj, rowsK_get (fun _ => 2) _ (hR _) hk hj]
        have h0 : j = 0 ∨ j = 1 := by have : j < 2 := hj; omega
        rcases h0 with rfl | rfl
        · show some (Blk.cells [_, _, C.mp (some (cloP H0.length (sp.map Prod.fst) k))] _) = some (Blk.cells [_, _, C.mp (some (kren (fun _ => 2) H0.length l _ (cloP H0.length l k)))] _)
          rw [hkr k hk]; rfl
        · show some (Blk.mp (encA g (P k)) 0) = some (Blk.mp ((encA g (P k)).map fun x : Int × W => (x.1, W.ren (kren (fun _ => 2) H0.length l (sp.map Prod.fst)) x.2)) 0)
          unfold encA
          rw [List.map_map]
          congr 2
          refine List.map_congr_left fun x hx => ?_
          show (x.1, g x.1 x.2) = (x.1, W.ren (kren (fun _ => 2) H0.length l (sp.map Prod.fst)) (g x.1 x.2))
          rw [hg]
  · have hk : id ∈ sp.map Prod.fst := afind_isSome.1 (by rw [hx]; rfl)
    refine ⟨⟨0, ?_⟩, by unfold cloP; omega⟩
    exact hrow _ id 1 hk (by decide)
  · have hk : id ∈ sp.map Prod.fst := afind_isSome.1 (by rw [hx]; rfl)
    have hk' : id' ∈ sp.map Prod.fst := afind_isSome.1 (by rw [hx']; rfl)
    have h1 := kloc_pos (fun _ => 2) hk (j := 1) (by decide)
    have h2 := kloc_pos (fun _ => 2) hk' (j := 1) (by decide)
    unfold cloP at e
    rw [show kpos (fun _ => 2) (sp.map Prod.fst) id + 1 = kpos (fun _ => 2) (sp.map Prod.fst) id' + 1 by omega, h2] at h1
    cases h1; rfl
end Ev
