/- From a function's check to a sound callee. -/
import Derived.Test.YtnndecgjcgpmbaaEvSim
namespace Ev
open Go

/-- A callee that is tied to a function of the program. -/
structure Tied (P : Program) (c : Callee) (g : FuncId) : Prop where
  sound : c.Sound P g
  enters : ∃ fn, P.funcs[g]? = some fn ∧ (fn.name == "runtime.NumGoroutine") = false ∧ fn.body.isNone = false

/-- What a function may call, by the places in its list of callees. -/
def fidsOf (l : List FuncId) : Nat → Option FuncId := fun j => l[j]?

def CallsTied (P : Program) (calls : Nat → Option Callee) : List FuncId → Nat → Prop
  | [], n => ∀ j, n ≤ j → calls j = none
  | g :: r, n => (∃ c, calls n = some c ∧ Tied P c g) ∧ CallsTied P calls r (n + 1)

theorem CallsTied.get {P : Program} {calls : Nat → Option Callee} : ∀ {l : List FuncId} {n j : Nat} {c : Callee} {g : FuncId}, CallsTied P calls l n → calls (n + j) = some c → l[j]? = some g → Tied P c g
  | [], _, _, _, _, _, _, h => by simp at h
  | x :: r, n, j, c, g, h, hc, hg => by
    obtain ⟨⟨c', h1, h2⟩, h3⟩ := h
    cases j with
    | zero =>
      rw [Nat.add_zero, h1] at hc
      simp at hg
      cases hc; cases hg; exact h2
    | succ j => exact CallsTied.get (n := n + 1) h3 (by rw [Nat.add_right_comm]; exact hc) (by simpa using hg)

theorem CallsTied.ok {P : Program} {calls : Nat → Option Callee} {l : List FuncId} (h : CallsTied P calls l 0) : CallsOK P calls (fidsOf l) :=
  ⟨fun f c g hc hg => (h.get (j := f) (by rw [Nat.zero_add]; exact hc) hg).sound, fun f c g hc hg => (h.get (j := f) (by rw [Nat.zero_add]; exact hc) hg).enters⟩

/-- The check of a function. -/
noncomputable def chkFn (P : Program) (calls : Nat → Option Callee) (l : List FuncId) (f : AFun) (fn : Func) : Bool := fnOK P (fidsOf l) (fun nt => drawOK P calls (fidsOf l) nt) f fn

section
variable {P : Program} {calls : Nat → Option Callee} {l : List FuncId} {f : AFun} {g : FuncId} {fn : Func}

theorem enters_of (hg : P.funcs[g]? = some fn) (hnm : (fn.name == "runtime.NumGoroutine") = false) (hb : fn.body.isNone = false) : ∃ fn, P.funcs[g]? = some fn ∧ (fn.name == "runtime.NumGoroutine") = false ∧ fn.body.isNone = false := ⟨fn, hg, hnm, hb⟩

theorem draws (h : CallsTied P calls l 0) : DrawSound P calls (fun nt => drawOK P calls (fidsOf l) nt) := fun _ its ops hd => draw_sound h.ok its ops hd

theorem tie_full (h : CallsTied P calls l 0) (hg : P.funcs[g]? = some fn) (hnm : (fn.name == "runtime.NumGoroutine") = false) (hb : fn.body.isNone = false) (ok : chkFn P calls l f fn = true) {F : TL f.ps → Heap → Option (TL f.rs × Heap)} (he : evFull calls f = F) :
    Tied P (.full f.ps f.rs F) g := by
  subst he
  exact ⟨full_sound h.ok (draws h) hg ok, enters_of hg hnm hb⟩
theorem tie_quiet (h : CallsTied P calls l 0) (hg : P.funcs[g]? = some fn) (hnm : (fn.name == "runtime.NumGoroutine") = false) (hb : fn.body.isNone = false) (ok : chkFn P calls l f fn = true) (hr : f.rs.all flatTy = true) {F : TL f.ps → Heap → Option (TL f.rs)} (he : evQuiet calls f = F) :
    Tied P (.quiet f.ps f.rs F) g := by
  subst he
  exact ⟨quiet_sound h.ok (draws h) hg ok hr, enters_of hg hnm hb⟩
theorem tie_pure (h : CallsTied P calls l 0) (hg : P.funcs[g]? = some fn) (hnm : (fn.name == "runtime.NumGoroutine") = false) (hb : fn.body.isNone = false) (ok : chkFn P calls l f fn = true) (hp : f.ps.all flatTy = true) (hr : f.rs.all flatTy = true)
    {F : TL f.ps → Heap → Option (TL f.rs)} (he : evPure calls f = F) : Tied P (.pure f.ps f.rs fun x => F x []) g := by
  subst he
  exact ⟨pure_sound h.ok (draws h) hg ok hp hr, enters_of hg hnm hb⟩
end
end Ev
