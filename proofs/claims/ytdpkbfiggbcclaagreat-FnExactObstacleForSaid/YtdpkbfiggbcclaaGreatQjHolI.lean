/-
  Contracts: the first hole, the first odd hole: the program's tests on the way.
-/
import Derived.Test.YtdpkbfiggbcclaaGreatQjObsP
namespace Go.Proofs.YtdpkbfiggbcclaaGreat
open Go.RowKit

section
variable {A : Option Addr} {m c : Nat} {r : Nat → Nat}
theorem IsHole_v {w : World} (h : GV w A m c r) {Al : Option Addr} {cl : Nat} {l : List Nat} (hl : LN w Al cl l) (hlen : l.length ≤ 7) :
    Calls Tryz.prog 217 #[.agg #[.int .i64 m, .slice A m c], .slice Al l.length cl] w fun e w' => e = .returned (.bool (hoR r m l)) ∧ Below w.heap.size w w' :=
  IsHole_i m A m c _ Al l.length cl _ w h.ga hl.li (by have := h.vg.n7; omega) (by omega)
set_option maxRecDepth 100000 in
set_option maxHeartbeats 1600000 in
theorem HolM {q p n : Nat} {Al : Option Addr} {cl : Nat} {l : List Nat} {w : World} (h : GBox w q A m c r) (hp : w.cell? ⟨p, 0, none⟩ = some (.int .i64 n)) (hl : LN w Al cl l) (hlen : l.length ≤ 7) :
    Calls Tryz.prog 213 #[.slice Al l.length cl, .pointer (some ⟨p, 0, none⟩), .pointer (some ⟨q, 0, none⟩)] w fun e w' => e = .returned (.bool (mayI r m n l)) ∧ Below w.heap.size w w' := by
  have KP := Lib.hid (IsInducedPath_v h.gv hl hlen)
  have e0 := h.c0
  have e1 := h.c1
  have HF : Hid (From w w) := From.refl w
  clear h hl
  by_cases hn : l.length = n
  · have Hv : Hid (mayI r m n l = true) := by unfold mayI; rw [decide_eq_true hn]; rfl
    have heq : ((l.length : Int) == (n : Int)) = true := by simp; omega
    have heq2 : (l.length = n) = True := by simp [hn]
    clear hn
    go_enter Tryz.func213, Tryz.ntmps213
    go_wp2
    go_ret
    exact ⟨by rw [Hv.out]; rfl, HF.out.below⟩
  · have Hv : Hid (mayI r m n l = ptB r m l) := by unfold mayI; rw [decide_eq_false hn]; rfl
    have heq : ((l.length : Int) == (n : Int)) = false := by simp; omega
    have heq2 : (l.length = n) = False := by simp [hn]
    clear hn
    go_enter Tryz.func213, Tryz.ntmps213
    go_wp2_with fail
    refine KP.out.mono ?_
    rintro e w1 ⟨rfl, hb1⟩
    replace HF := Lib.hid (HF.out.keep hb1)
    clear hb1
    go_wp2
    go_ret
    exact ⟨by rw [Hv.out]; rfl, HF.out.below⟩
set_option maxRecDepth 100000 in
set_option maxHeartbeats 1600000 in
theorem HolH {q : Nat} {Al : Option Addr} {cl : Nat} {l : List Nat} {w : World} (h : GBox w q A m c r) (hl : LN w Al cl l) (hlen : l.length ≤ 7) :
    Calls Tryz.prog 216 #[.slice Al l.length cl, .pointer (some ⟨q, 0, none⟩)] w fun e w' => e = .returned (.bool (hoR r m l)) ∧ Below w.heap.size w w' := by
  have KP := Lib.hid (IsHole_v h.gv hl hlen)
  have e0 := h.c0
  have e1 := h.c1
  have HF : Hid (From w w) := From.refl w
  clear h hl
  go_enter Tryz.func216, Tryz.ntmps216
  go_wp2_with fail
  refine KP.out.mono ?_
  rintro e w1 ⟨rfl, hb1⟩
  replace HF := Lib.hid (HF.out.keep hb1)
  clear hb1
  go_wp2
  go_ret
  exact ⟨rfl, HF.out.below⟩
end
end Go.Proofs.YtdpkbfiggbcclaaGreat
