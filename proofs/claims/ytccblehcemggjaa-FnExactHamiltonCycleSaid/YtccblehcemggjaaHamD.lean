/-
  What the searches for ways answer, as plain functions.
-/
import Derived.Test.YtccblehcemggjaaHamI
namespace Go.Proofs.Ytccblehcemggjaa
open Go.RowKit

noncomputable def hamR (sz : Int) (m : Nat) (x : Nat → Int) (closed : Bool) : Option (List Nat) := if okB sz m x = true then sea (rw_ x) m closed m [] else none
noncomputable def hamQ (sz : Int) (m : Nat) (x : Nat → Int) (closed : Bool) : Option (List Nat) := if closed = true ∧ sz < 3 then none else hamR sz m x closed
noncomputable def hamL (sz : Int) (m : Nat) (x : Nat → Int) (closed : Bool) : List Nat := (hamQ sz m x closed).getD []
noncomputable def hamB (sz : Int) (m : Nat) (x : Nat → Int) (closed : Bool) : Bool := (hamQ sz m x closed).isSome
theorem hamR_bad {sz : Int} {m : Nat} {x : Nat → Int} {closed : Bool} (h : okB sz m x = false) : hamR sz m x closed = none := by unfold hamR; rw [h]; rfl
theorem hamR_ok {sz : Int} {m : Nat} {x : Nat → Int} {closed : Bool} (h : okB sz m x = true) : hamR sz m x closed = sea (rw_ x) m closed m [] := by unfold hamR; rw [h]; rfl
theorem hamQ_small {sz : Int} {m : Nat} {x : Nat → Int} (h : sz < 3) : hamQ sz m x true = none := by unfold hamQ; rw [if_pos ⟨rfl, h⟩]
theorem hamQ_big {sz : Int} {m : Nat} {x : Nat → Int} (h : 3 ≤ sz) : hamQ sz m x true = hamR sz m x true := by unfold hamQ; rw [if_neg (fun h2 => by omega)]
theorem hamQ_path {sz : Int} {m : Nat} {x : Nat → Int} : hamQ sz m x false = hamR sz m x false := by unfold hamQ; rw [if_neg (fun h2 => by cases h2.1)]
theorem ham_none {sz : Int} {m : Nat} {x : Nat → Int} {closed : Bool} (h : hamQ sz m x closed = none) : hamL sz m x closed = [] ∧ hamB sz m x closed = false := by unfold hamL hamB; rw [h]; exact ⟨rfl, rfl⟩
theorem ham_some {sz : Int} {m : Nat} {x : Nat → Int} {closed : Bool} {o : List Nat} (h : hamQ sz m x closed = some o) : hamL sz m x closed = o ∧ hamB sz m x closed = true := by unfold hamL hamB; rw [h]; exact ⟨rfl, rfl⟩
theorem ham_len {sz : Int} {m : Nat} {x : Nat → Int} {closed : Bool} : (hamL sz m x closed).length ≤ 7 := by
  unfold hamL
  cases h : hamQ sz m x closed with
  | none => simp
  | some o =>
    have h2 : hamR sz m x closed = some o := by
      unfold hamQ at h
      split at h
      · cases h
      · exact h
    cases ho : okB sz m x with
    | false => rw [hamR_bad ho] at h2; cases h2
    | true =>
      rw [hamR_ok ho] at h2
      have h3 := (sea_len _ _ _ h2).1
      obtain ⟨r, es, vg, _⟩ : OkG sz m x := by
        refine Classical.byContradiction fun h2 => ?_
        rw [okB_no h2] at ho; cases ho
      have := vg.n7
      simp at h3 ⊢
      omega
/-- What comes back: nothing, or a list of its own. -/
def hamP (w : World) (o : Option (List Nat)) (e : Ending) (w' : World) : Prop :=
  match o with
  | none => ∃ A' c', e = .returned (.tuple #[.slice A' 0 c', .bool false]) ∧ Own w' w.heap.size w'.heap.size 3 1 A' 0 c' (ni []) ∧ Below w.heap.size w w'
  | some out => ∃ A' c', e = .returned (.tuple #[.slice A' out.length c', .bool true]) ∧ Own w' w.heap.size w'.heap.size 3 1 A' out.length c' (ni out) ∧ Below w.heap.size w w'
/-- As the law's text wants it. -/
theorem hamP_law {w : World} {sz : Int} {m : Nat} {x : Nat → Int} {closed : Bool} {e : Ending} {w' : World} (h : hamP w (hamQ sz m x closed) e w') :
    ∃ A' c', e = .returned (.tuple #[.slice A' (hamL sz m x closed).length c', .bool (hamB sz m x closed)]) ∧ Own w' w.heap.size w'.heap.size 3 1 A' (hamL sz m x closed).length c' (fun j => .int .i64 ((((hamL sz m x closed).getD j 0 : Nat)) : Int)) ∧ Below w.heap.size w w' := by
  cases hq : hamQ sz m x closed with
  | none =>
    rw [hq] at h
    rw [(ham_none hq).1, (ham_none hq).2]
    exact h
  | some o =>
    rw [hq] at h
    rw [(ham_some hq).1, (ham_some hq).2]
    exact h
end Go.Proofs.Ytccblehcemggjaa
