/-
  Contracts: the reference's search for a way, whole.
-/
import Derived.Test.YtppkokgiojcgbaaDoorQzGC
namespace Go.Proofs.YtppkokgiojcgbaaDoor
open Go.RowKit

theorem step_appendG0 (w : World) {ops : Array Oper} {o : Oper} {a : Act} {K : Act → World → Prop} {Q : Exit → Act → World → Prop} {E : Prop} {lo hi B c m c2 : Nat} {A A2 : Option Addr} {x : Nat → Value} {y : Nat → Int} (hgd : o.guard = none) (s z : Operand)
    (ho : o.op = .call { callee := .builtin .append, args := #[s, z], argTypes := #[22, 22] })
    (hs : a.eval s = .slice A 0 c) (h : Own w lo hi 3 1 A 0 c x) (hz : a.eval z = .slice A2 m c2) (hr : Rd w B A2 m c2 y) (hlo : lo ≤ w.heap.size) (hm : m ≤ 1073741824)
    (hK : ∀ A' c' w', Own w' lo w'.heap.size 3 1 A' m c' (fun j => .int .i64 (y j)) → Below lo w w' → w.grownBy w' (Value.slice A 0 c).ownBlock → K (a.put o.dst (.slice A' m c')) w') :
    if Region.wanted o (yielded ops a.tmps) = true then Oper.wp Tryd.prog o a w K Q else E := by
  refine step_appendG w hgd s z ho hs h hz hr hlo (by omega) hm ?_
  intro A' c' w' h1 h2 h3
  rw [Nat.zero_add] at h1 ⊢
  exact hK A' c' w' (h1.congr (fun j _ => by unfold thenI; simp)) h2 h3

end Go.Proofs.YtppkokgiojcgbaaDoor
