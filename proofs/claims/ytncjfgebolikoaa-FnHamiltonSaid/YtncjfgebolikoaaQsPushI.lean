/-
  append of one number onto a list of a call's own, by places.
-/
import Derived.Test.YtncjfgebolikoaaQsGA
import Derived.Test.YtncjfgebolikoaaQsGB
namespace Go.Proofs.Ytncjfgebolikoaa
open Go.RowKit

/-- append of one number. -/
theorem wpList_pushI (W : World) {ops : Array Oper} {rest : List Oper} {o : Oper} {a : Act} {Q : Exit → Act → World → Prop} (hgd : o.guard = none) (s y : Operand)
    (ho : o.op = .call { callee := .builtin .append, args := #[s, y], argTypes := #[24, 24] })
    (lo hi : Nat) (A : Option Addr) (n c : Nat) (f : Nat → Int) (h : Own W lo hi 3 1 A n c (fun j => .int .i64 (f j))) (hlo : lo ≤ W.heap.size) (k : Int) (hk : f n = k) (hs : a.eval s = .slice A n c) (cx H : Nat) (hH : W.heap.size = H) (hy : a.eval y = .slice (some ⟨H, 0, none⟩) 1 cx)
    (hn : n ≤ 1073741824)
    (hK : ∀ g cap w', Own w' lo w'.heap.size 3 1 (some ⟨g, 0, none⟩) (n + 1) cap (fun j => .int .i64 (f j)) → Below lo W w' → wpList Try.prog ops Q rest (a.put o.dst (.slice (some ⟨g, 0, none⟩) (n + 1) cap)) w') :
    wpList Try.prog ops Q (o :: rest) a (W.alloc (Obj.cells #[.int .i64 k] 3)) := by
  subst hH
  have ha := h.alloc (Obj.cells #[.int .i64 k] 3)
  refine wpList_push (W.alloc (Obj.cells #[.int .i64 k] 3)) hgd s y 24 ho 3 _ 1 8 Try.underlying24 info_int rfl (by omega) lo hi A n c _ hs
    ha (by simp; omega) W.heap.size #[.int .i64 k] 3 (0, 0) cx (heap_alloc_new W _) hy rfl ?_ (by simp [Value.oneCell']) hn (by omega) ?_
  · intro i hi
    obtain rfl : i = 0 := by omega
    simp [hk]
  · intro g cap w' hp
    exact hK g cap w' hp.own (((Below.refl _ _).alloc hlo _).trans hp.below)
end Go.Proofs.Ytncjfgebolikoaa
