/-
  Contracts: the program's search for the first list of different vertices, whatever its two tests are; the second test may write memory of its own.
-/
import Derived.Test.YtppkokgiojcgbaaDoorQzV
import Derived.Test.YtppkokgiojcgbaaDoorQzGC
import Derived.Laws.EntriesVeiled
namespace Go.Proofs.YtppkokgiojcgbaaDoor
open Go.RowKit

section
variable {m k v : Nat} {may hol : List Nat → Bool} {l : List Nat}
end

set_option maxRecDepth 100000 in
set_option maxHeartbeats 1000000 in
theorem clone_n (b o c : Nat) (l : List Nat) (w : World) (h : Rd w w.heap.size (some ⟨b, o, none⟩) l.length c (fun j => ((l.getD j 0 : Nat) : Int))) (h0 : l ≠ []) (hlen : l.length ≤ 7) :
    Calls Tryd.prog 58 #[.slice (some ⟨b, o, none⟩) l.length c] w fun e w' => ∃ g c', e = .returned (.slice (some ⟨g, 0, none⟩) l.length c') ∧ Own w' w.heap.size w'.heap.size 3 1 (some ⟨g, 0, none⟩) l.length c' (ni l) ∧ Below w.heap.size w w' := by
  have HO : Hid (Own (w.alloc (Obj.cells #[] 3)) w.heap.size (w.heap.size + 1) 3 1 (some ⟨w.heap.size, 0, none⟩) 0 0 (ni [])) :=
    .inr ⟨w.heap.size, #[], rfl, Nat.le_refl _, Nat.lt_succ_self _, heap_alloc_new w _, Nat.le_refl _, by unfold maxLen; omega, rfl, fun j hj => absurd hj (by omega)⟩
  have HR : Hid (Rd (w.alloc (Obj.cells #[] 3)) w.heap.size (some ⟨b, o, none⟩) l.length c (fun j => ((l.getD j 0 : Nat) : Int))) := h.keep ((Below.refl _ _).alloc (Nat.le_refl _) _) (Nat.le_refl _)
  have hpos : 0 < l.length := List.length_pos_iff.2 h0
  have H0 := Lib.hid hpos
  clear h h0 hpos
  have he : ∀ w : World, (binOp .eql 22 (.slice (some ⟨b, o, none⟩) l.length c) (.slice none 0 0)).run Tryd.prog w = .ok (.bool false) w := fun _ => rfl
  go_enter Tryd.func58, Tryd.ntmps58
  go_wp2_with (first | (at_builtin; (refine wpList_appendI _ rfl _ _ rfl rfl HO.out rfl HR.out (by simp) (by omega) (by omega) ?_; intro A' c' w1 hO hb)))
  rw [Nat.zero_add] at hO
  have hO2 := hO.congr (y := ni l) (fun j hj => by unfold thenI ni; simp)
  obtain ⟨g, rfl, _⟩ := hO2.at_ H0.out
  have HO2 := Lib.hid hO2
  have HB : Hid (Below w.heap.size w w1) := ((Below.refl _ _).alloc (Nat.le_refl _) _).trans hb
  clear hO hO2 hb
  go_wp2
  go_ret
  exact ⟨g, c', rfl, HO2.out, HB.out⟩

section
variable {m n H lo hi : Nat} {fm fh : FuncId} {cm ch : Array Value} {may hol : List Nat → Bool} {J : List (List Nat) → World → Prop}
end
end Go.Proofs.YtppkokgiojcgbaaDoor
