/-
  Several texts in one.
-/
import Derived.Test.YtncjfgebolikoaaQsV
import Derived.Test.YtncjfgebolikoaaQsGA
import Derived.Test.YtncjfgebolikoaaQsSet2I
import Derived.Test.YtncjfgebolikoaaQsListS
import Derived.Test.YtncjfgebolikoaaQsTake
import Derived.Deep.QuietTactic
import Derived.BigQuiet
import Derived.Test.YtncjfgebolikoaaQsFirst
import Derived.Test.YtncjfgebolikoaaQsUmbP
/-
  Contracts: what a search for a list leaves; the program's search for the least set.
-/
namespace Go.Proofs.Ytncjfgebolikoaa
open Go.RowKit

/-- A list and whether there is one. -/
def lsQ (w : World) (o : Option (List Nat)) (e : Ending) (w' : World) : Prop :=
  ∃ A' c', e = .returned (.tuple #[.slice A' (o.getD []).length c', .bool o.isSome]) ∧ ON w.heap.size w' A' c' (o.getD []) ∧ Below w.heap.size w w'
theorem lsQ.no {w w' : World} (hb : Below w.heap.size w w') : lsQ w none (.returned (.tuple #[.slice none 0 0, .bool false])) w' := ⟨none, 0, rfl, ⟨Own.nil _ _ _ _ _ _⟩, hb⟩
theorem lsQ.up {w w' : World} {o : Option (List Nat)} {e : Ending} {W : World} (h : lsQ W o e w') (hb : Below w.heap.size w W) : lsQ w o e w' := by
  obtain ⟨A, c, h1, h2, h3⟩ := h
  exact ⟨A, c, h1, h2.mono hb.size, hb.trans (h3.mono hb.size)⟩
/-- append of a list onto a new empty one. -/
theorem wpList_copyN (W : World) {ops : Array Oper} {rest : List Oper} {o : Oper} {a : Act} {Q : Exit → Act → World → Prop} (hgd : o.guard = none) (s z : Operand)
    (ho : o.op = .call { callee := .builtin .append, args := #[s, z], argTypes := #[24, 24] })
    (Al : Option Addr) (cl : Nat) (l : List Nat) (h : LN W Al cl l) (hl : l.length ≤ 1073741824) (H : Nat) (hH : W.heap.size = H) (hs : a.eval s = .slice (some ⟨H, 0, none⟩) 0 0) (hz : a.eval z = .slice Al l.length cl)
    (hK : ∀ A' c' w', Own w' W.heap.size w'.heap.size 3 1 A' l.length c' (ni l) → Below W.heap.size W w' → wpList Try.prog ops Q rest (a.put o.dst (.slice A' l.length c')) w') :
    wpList Try.prog ops Q (o :: rest) a (W.alloc (Obj.cells #[] 3)) := by
  subst hH
  have HO : Own (W.alloc (Obj.cells #[] 3)) W.heap.size (W.heap.size + 1) 3 1 (some ⟨W.heap.size, 0, none⟩) 0 0 (ni []) :=
    .inr ⟨W.heap.size, #[], rfl, Nat.le_refl _, Nat.lt_succ_self _, heap_alloc_new W _, Nat.le_refl _, by unfold maxLen; omega, rfl, fun j hj => absurd hj (by omega)⟩
  have HB : Below W.heap.size W (W.alloc (Obj.cells #[] 3)) := (Below.refl _ _).alloc (Nat.le_refl _) _
  refine wpList_appendI _ hgd s z ho hs HO hz (h.rd.keep HB (Nat.le_refl _)) HB.size (by omega) hl fun A' c' w' h1 h2 => ?_
  have h3 : Own w' W.heap.size w'.heap.size 3 1 A' l.length c' (ni l) := by
    have := h1
    rw [Nat.zero_add] at this
    exact this.congr fun j hj => by unfold thenI ni; simp
  have := hK A' c' w' h3 (HB.trans h2)
  rw [Nat.zero_add]
  exact this
section
variable {A : Option Addr} {m c : Nat} {r : Nat → Nat} {fn : FuncId} {caps : Array Value} {p : Nat → Bool}
end
end Go.Proofs.Ytncjfgebolikoaa

/-
  Contracts: the first order for which a number is least, whatever the number is.
-/
namespace Go.Proofs.Ytncjfgebolikoaa
open Go.RowKit

section
variable {m c H : Nat} {A : Option Addr} {r : Nat → Nat} {fn : FuncId} {caps : Array Value} {p : List Nat → Int} {w0 : World}
theorem seaG_false (m : Nat) (may : List Nat → Bool) : ∀ (k : Nat) (l : List Nat), seaG m may (fun _ => false) k l = none
  | 0, _ => rfl
  | k + 1, l => seaG_none fun u _ => by
    unfold atG
    split
    · exact seaG_false m may k _
    · rfl
end
end Go.Proofs.Ytncjfgebolikoaa

/-
  Contracts: orders in which all between two neighbors are neighbors of both: the program's test.
-/
namespace Go.Proofs.Ytncjfgebolikoaa
open Go.RowKit

theorem LN.cell {w : World} {b o c j : Nat} {l : List Nat} (h : LN w (some ⟨b, o, none⟩) c l) (hj : j < l.length) : w.cell? ⟨b, o + j, none⟩ = some (.int .i64 (l.getD j 0 : Nat)) := by
  rw [h.at hj]; simp [List.getD, hj]
end Go.Proofs.Ytncjfgebolikoaa

/-
  Contracts: the first order in which all between two neighbors are neighbors of both; is a graph a proper interval graph? The program's.
-/
namespace Go.Proofs.Ytncjfgebolikoaa
open Go.RowKit

noncomputable def umO (r : Nat → Nat) (m : Nat) : Option (List Nat) := seaG m (umB r) (fun _ => true) m []
noncomputable def ppB (sz : Int) (m : Nat) (x : Nat → Int) : Bool := okB sz m x && (umO (rw_ x) m).isSome
theorem ppB_no {sz : Int} {m : Nat} {x : Nat → Int} (h : okB sz m x = false) : ppB sz m x = false := by unfold ppB; rw [h]; rfl
theorem ppB_yes {sz : Int} {m : Nat} {x : Nat → Int} (h : okB sz m x = true) : ppB sz m x = (umO (rw_ x) m).isSome := by unfold ppB; rw [h]; rfl
section
variable {A : Option Addr} {m c : Nat} {r : Nat → Nat}
end
set_option maxRecDepth 100000 in
set_option maxHeartbeats 1600000 in
/-- The program's search in what is no graph. -/
theorem firstList_noG {sz : Int} {A : Option Addr} {m c : Nat} {x : Nat → Int} {w : World} {n : Int} {fm fh : FuncId} {cm ch : Array Value} (h : GA w A m c x) (hm : m ≤ 1048576) (hok : okB sz m x = false) :
    Calls Try.prog 27 #[.agg #[.int .i64 sz, .slice A m c], .int .i64 n, .func (.func fm) #[] cm, .func (.func fh) #[] ch] w fun e w' => e = .returned (.tuple #[.slice none 0 0, .bool false]) ∧ Below w.heap.size w w' := by
  obtain ⟨W4, hW4⟩ : ∃ W : World, W = ((((w.alloc (Obj.cells #[Value.int IntKind.i64 sz, Value.slice A m c] 26)).alloc (Obj.cells #[Value.int IntKind.i64 n] 3)).alloc (Obj.cells #[.func (.func fm) #[] cm] 43)).alloc (Obj.cells #[.func (.func fh) #[] ch] 43)) := ⟨_, rfl⟩
  have HF4 : Hid (From w W4) := by rw [hW4]; exact (((From.alloc _ _).alloc_ _).alloc_ _).alloc_ _
  have hz4 : w.heap.size + 1 + 1 + 1 + 1 = W4.heap.size := by rw [hW4]; simp
  have a0 : W4.cell? ⟨w.heap.size, 0, none⟩ = some (.int .i64 sz) := by rw [hW4]; simp [go_sem]
  have a1 : W4.cell? ⟨w.heap.size, 1, none⟩ = some (.slice A m c) := by rw [hW4]; simp [go_sem]
  obtain ⟨W, hW⟩ : ∃ W : World, W = W4.alloc (Obj.cells #[.func (.func 56) #[] #[.pointer (some ⟨w.heap.size + 1, 0, none⟩), .pointer (some ⟨w.heap.size + 1 + 1 + 1, 0, none⟩), .pointer (some ⟨w.heap.size, 0, none⟩), .pointer (some ⟨w.heap.size + 1 + 1, 0, none⟩), .pointer (some ⟨W4.heap.size, 0, none⟩)]] 60) := ⟨_, rfl⟩
  have hbW : Below W4.heap.size W4 W := by rw [hW]; exact (Below.refl _ _).alloc (Nat.le_refl _) _
  have HB : Hid (From w W) := HF4.out.keep hbW
  have c1 : w.heap.size < W4.heap.size := by omega
  have e0 := up hbW a0 (by omega)
  have e1 := up hbW a1 (by omega)
  have HK := Lib.hid (h.keep HB.out.below)
  have HW := Lib.hid hW
  have HW4 := Lib.hid hW4
  have HZ4 := Lib.hid hz4
  have Ho := Lib.hid hok
  clear hW hW4 h hz4 hbW hok HF4
  go_enter Try.func27, Try.ntmps27
  go_upto_region 2 with (fail)
  rw [← HW4.out, HZ4.out]
  clear HW4
  go_wp2_with fail
  rw [← HW.out]
  clear HW
  refine (IsGraph_any sz A m c x W W.heap.size HK.out.rd (Nat.le_refl _) hm).mono ?_
  rintro e w1 ⟨rfl, hb1⟩
  rw [Ho.out]
  replace HB := Lib.hid (HB.out.keep hb1)
  clear hb1 e0 e1 a0 a1
  go_wp2
  go_ret2
  exact ⟨rfl, HB.out.below⟩
section
variable (sz : Int) (A : Option Addr) (m c : Nat) (x : Nat → Int) (w : World)
end
end Go.Proofs.Ytncjfgebolikoaa
