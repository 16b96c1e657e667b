/-
  Contracts: is it a graph (any size); has one graph at most the edges of another; is a graph between two others.
-/
import Derived.Test.YtnnlmdenffnjbaaGraphS
import Derived.Test.YtnnlmdenffnjbaaLawGraph
import Derived.Test.YtnnlmdenffnjbaaBits
namespace Go.Proofs.Ytnnlmdenffnjbaa
open Go.RowKit

theorem okB_far {sz : Int} {m : Nat} {x : Nat → Int} (h : sz < 1 ∨ 7 < sz ∨ sz ≠ m) : okB sz m x = false := okB_no (fun ⟨r, e, hg, _⟩ => by have := hg.n1; have := hg.n7; omega)

set_option maxHeartbeats 400000 in
theorem IsGraph_any (sz : Int) (A : Option Addr) (m c : Nat) (x : Nat → Int) (w : World) (B : Nat) (h : Rd w B A m c x) (hB : B ≤ w.heap.size) (hm : m ≤ 1048576) :
    Calls Try.prog 54 #[.agg #[.int .i64 sz, .slice A m c]] w fun e w' => e = .returned (.bool (okB sz m x)) ∧ Below w.heap.size w w' := by
  by_cases h1 : 1 ≤ sz ∧ sz ≤ 7
  · by_cases hs : sz = (m : Int)
    · exact IsGraph_i sz A m c x w B h hB hm h1.1 h1.2 hs
    · rw [okB_far (.inr (.inr hs))]
      have Hb : Hid (Below w.heap.size w (w.alloc (Obj.cells #[Value.int IntKind.i64 sz, Value.slice A m c] 28))) := (Below.refl _ _).alloc (Nat.le_refl _) _
      have hne : ((m : Int) != sz) = true := by simp; omega
      obtain ⟨ha, hb⟩ := h1
      clear h hs
      go_enter Try.func54, Try.ntmps54
      go_wp2_with (first | (go_at_call 135; refine (within_yes _ _ _ _ ha hb).mono ?_; rintro e w' ⟨rfl, rfl⟩))
      go_ret
      exact ⟨rfl, Hb.out⟩
  · rw [okB_far (by omega)]
    have Hb : Hid (Below w.heap.size w (w.alloc (Obj.cells #[Value.int IntKind.i64 sz, Value.slice A m c] 28))) := (Below.refl _ _).alloc (Nat.le_refl _) _
    have hn : sz < 1 ∨ 7 < sz := by omega
    have Hn := Lib.hid hn
    clear h h1 hn
    go_enter Try.func54, Try.ntmps54
    go_wp2_with (first | (go_at_call 135; refine (within_no _ _ _ _ Hn.out).mono ?_; rintro e w' ⟨rfl, rfl⟩))
    go_ret
    exact ⟨rfl, Hb.out⟩

set_option maxHeartbeats 400000 in
set_option maxRecDepth 100000 in
theorem IsGraph_sany (sz : Int) (A : Option Addr) (m c : Nat) (x : Nat → Int) (w : World) (B : Nat) (h : Rd w B A m c x) (hB : B ≤ w.heap.size) (hm : m ≤ 1048576) :
    Calls Try.prog 50 #[.agg #[.int .i64 sz, .slice A m c]] w fun e w' => e = .returned (.bool (okB sz m x)) ∧ Below w.heap.size w w' := by
  by_cases h1 : 1 ≤ sz ∧ sz ≤ 7
  · by_cases hs : sz = (m : Int)
    · exact IsGraph_s sz A m c x w B h hB hm h1.1 h1.2 hs
    · rw [okB_far (.inr (.inr hs))]
      have Hb : Hid (Below w.heap.size w (w.alloc (Obj.cells #[Value.int IntKind.i64 sz, Value.slice A m c] 28))) := (Below.refl _ _).alloc (Nat.le_refl _) _
      have hne : ((m : Int) != sz) = true := by simp; omega
      obtain ⟨ha, hb⟩ := h1
      clear h hs
      go_enter Try.func50, Try.ntmps50
      go_wp2_with (first | (go_at_call 132; refine (l1In_yes _ _ _ _ ha hb).mono ?_; rintro e w' ⟨rfl, rfl⟩))
      go_ret
      exact ⟨rfl, Hb.out⟩
  · rw [okB_far (by omega)]
    have Hb : Hid (Below w.heap.size w (w.alloc (Obj.cells #[Value.int IntKind.i64 sz, Value.slice A m c] 28))) := (Below.refl _ _).alloc (Nat.le_refl _) _
    have hn : sz < 1 ∨ 7 < sz := by omega
    have Hn := Lib.hid hn
    clear h h1 hn
    go_enter Try.func50, Try.ntmps50
    go_wp2_with (first | (go_at_call 132; refine (l1In_no _ _ _ _ Hn.out).mono ?_; rintro e w' ⟨rfl, rfl⟩))
    go_ret
    exact ⟨rfl, Hb.out⟩

/-- Both are graphs of one size, and the first one's edges are edges of the second. -/
def Wi (s1 : Int) (m1 : Nat) (x1 : Nat → Int) (s2 : Int) (m2 : Nat) (x2 : Nat → Int) : Prop :=
  OkG s1 m1 x1 ∧ OkG s2 m2 x2 ∧ s1 = s2 ∧ ∀ v, v < m1 → (x1 v).toNat &&& (x2 v).toNat = (x1 v).toNat
noncomputable def wiB (s1 : Int) (m1 : Nat) (x1 : Nat → Int) (s2 : Int) (m2 : Nat) (x2 : Nat → Int) : Bool := @decide (Wi s1 m1 x1 s2 m2 x2) (Classical.propDecidable _)
theorem wiB_yes {s1 s2 : Int} {m1 m2 : Nat} {x1 x2 : Nat → Int} (h : Wi s1 m1 x1 s2 m2 x2) : wiB s1 m1 x1 s2 m2 x2 = true := @decide_eq_true _ (Classical.propDecidable _) h
theorem wiB_no {s1 s2 : Int} {m1 m2 : Nat} {x1 x2 : Nat → Int} (h : ¬ Wi s1 m1 x1 s2 m2 x2) : wiB s1 m1 x1 s2 m2 x2 = false := @decide_eq_false _ (Classical.propDecidable _) h

end Go.Proofs.Ytnnlmdenffnjbaa
