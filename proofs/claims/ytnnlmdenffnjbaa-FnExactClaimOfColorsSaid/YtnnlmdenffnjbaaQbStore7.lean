/-
  Law: a claim's value is stored into its box in one step, also in a region that draws its order.
-/
import Derived.Test.YtnnlmdenffnjbaaQbClaimBox
import Derived.Deep.RegionHeld3
namespace Go.Proofs.Ytnnlmdenffnjbaa
open Go.RowKit

def st7 (w : World) (q : Nat) (v0 v1 v2 v3 v4 v5 v6 : Value) : World := ((((((w.setCell ⟨q, 0, none⟩ v0).setCell ⟨q, 1, none⟩ v1).setCell ⟨q, 2, none⟩ v2).setCell ⟨q, 3, none⟩ v3).setCell ⟨q, 4, none⟩ v4).setCell ⟨q, 5, none⟩ v5).setCell ⟨q, 6, none⟩ v6
theorem fr_st7 (w : World) (q : Nat) (v0 v1 v2 v3 v4 v5 v6 : Value) : Fr q (q + 1) w (st7 w q v0 v1 v2 v3 v4 v5 v6) := by
  unfold st7
  exact (((((((Fr.refl _ _ w).setCell (p := ⟨q, 0, none⟩) (Nat.le_refl _) (Nat.lt_succ_self _) _).setCell (p := ⟨q, 1, none⟩) (Nat.le_refl _) (Nat.lt_succ_self _) _).setCell (p := ⟨q, 2, none⟩) (Nat.le_refl _) (Nat.lt_succ_self _) _).setCell (p := ⟨q, 3, none⟩) (Nat.le_refl _) (Nat.lt_succ_self _) _).setCell (p := ⟨q, 4, none⟩) (Nat.le_refl _) (Nat.lt_succ_self _) _).setCell (p := ⟨q, 5, none⟩) (Nat.le_refl _) (Nat.lt_succ_self _) _).setCell (p := ⟨q, 6, none⟩) (Nat.le_refl _) (Nat.lt_succ_self _) _
theorem KB.st7 {X : World} {q : Nat} {k0 : Clm} (h : KB X q k0) (k : Clm) : KB (st7 X q (.int .i64 k.K) (.int .i64 k.s) (.slice k.A0 k.n0 k.c0) (.string k.t) (.slice k.A1 k.n1 k.c1) (.slice k.A2 k.n2 k.c2) (.slice k.A3 k.D.length k.c3)) q k := by
  have e0 := h.c0
  have e1 := h.c1
  have e2 := h.c2
  have e3 := h.c3
  have e4 := h.c4
  have e5 := h.c5
  have e6 := h.c6
  have f0 := h.f0
  have f1 := h.f1
  have f2 := h.f2
  have f3 := h.f3
  have f4 := h.f4
  have f5 := h.f5
  have f6 := h.f6
  unfold Go.Proofs.Ytnnlmdenffnjbaa.st7
  constructor <;> simp [go_sem, e0, e1, e2, e3, e4, e5, e6, f0, f1, f2, f3, f4, f5, f6]
/-- A claim without edges. -/
def mk7 (K s : Int) (A0 : Option Addr) (n0 c0 : Nat) (x0 : Nat → Int) (t : ByteArray) (A1 : Option Addr) (n1 c1 : Nat) (x1 : Nat → Int) (A2 : Option Addr) (n2 c2 : Nat) (x2 : Nat → Int) : Clm := ⟨K, s, A0, n0, c0, x0, t, A1, n1, c1, x1, A2, n2, c2, x2, none, 0, []⟩
theorem KB.mk7 {X : World} {q : Nat} {k0 : Clm} (h : KB X q k0) (K s : Int) (A0 : Option Addr) (n0 c0 : Nat) (x0 : Nat → Int) (t : ByteArray) (A1 : Option Addr) (n1 c1 : Nat) (x1 : Nat → Int) (A2 : Option Addr) (n2 c2 : Nat) (x2 : Nat → Int) :
    KB (Go.Proofs.Ytnnlmdenffnjbaa.st7 X q (.int .i64 K) (.int .i64 s) (.slice A0 n0 c0) (.string t) (.slice A1 n1 c1) (.slice A2 n2 c2) (.slice none 0 0)) q (Go.Proofs.Ytnnlmdenffnjbaa.mk7 K s A0 n0 c0 x0 t A1 n1 c1 x1 A2 n2 c2 x2) :=
  h.st7 (Go.Proofs.Ytnnlmdenffnjbaa.mk7 K s A0 n0 c0 x0 t A1 n1 c1 x1 A2 n2 c2 x2)
end Go.Proofs.Ytnnlmdenffnjbaa
