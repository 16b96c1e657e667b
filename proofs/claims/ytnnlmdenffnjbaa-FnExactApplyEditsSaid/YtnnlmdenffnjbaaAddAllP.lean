/-
  Plain: a graph and a list of edges more.
-/
import Derived.Test.YtnnlmdenffnjbaaAddEdge
namespace Go.Proofs.Ytnnlmdenffnjbaa

noncomputable def aaF (sz : Int) (m : Nat) : List (List Int) → (Nat → Int) → Option (Nat → Int)
  | [], x => some x
  | l :: L, x => if l.length = 2 ∧ aeB sz m x (l.getD 0 0) (l.getD 1 0) = true then aaF sz m L (aeX sz m x (l.getD 0 0) (l.getD 1 0)) else none
noncomputable def aaR (sz : Int) (m : Nat) (x : Nat → Int) (L : List (List Int)) : Option (Nat → Int) := if okB sz m x = true then aaF sz m L x else none
noncomputable def aaB (sz : Int) (m : Nat) (x : Nat → Int) (L : List (List Int)) : Bool := (aaR sz m x L).isSome
noncomputable def aaN (sz : Int) (m : Nat) (x : Nat → Int) (L : List (List Int)) : Nat := if aaB sz m x L = true then m else 0
noncomputable def aaZ (sz : Int) (m : Nat) (x : Nat → Int) (L : List (List Int)) : Int := if aaB sz m x L = true then sz else 0
noncomputable def aaX (sz : Int) (m : Nat) (x : Nat → Int) (L : List (List Int)) : Nat → Int := (aaR sz m x L).getD x
theorem aaN_le {sz : Int} {m : Nat} {x : Nat → Int} {L : List (List Int)} : aaN sz m x L ≤ m := by unfold aaN; split <;> omega
theorem aa_none {sz : Int} {m : Nat} {x : Nat → Int} {L : List (List Int)} (h : aaR sz m x L = none) : aaB sz m x L = false ∧ aaN sz m x L = 0 ∧ aaZ sz m x L = 0 := by
  have hb : aaB sz m x L = false := by unfold aaB; rw [h]; rfl
  exact ⟨hb, by unfold aaN; rw [hb]; rfl, by unfold aaZ; rw [hb]; rfl⟩
theorem aa_some {sz : Int} {m : Nat} {x y : Nat → Int} {L : List (List Int)} (h : aaR sz m x L = some y) : aaB sz m x L = true ∧ aaN sz m x L = m ∧ aaZ sz m x L = sz ∧ aaX sz m x L = y := by
  have hb : aaB sz m x L = true := by unfold aaB; rw [h]; rfl
  exact ⟨hb, by unfold aaN; rw [hb]; rfl, by unfold aaZ; rw [hb]; rfl, by unfold aaX; rw [h]; rfl⟩
theorem aaR_no {sz : Int} {m : Nat} {x : Nat → Int} {L : List (List Int)} (h : okB sz m x = false) : aaR sz m x L = none := by unfold aaR; rw [h]; rfl
theorem aaR_yes {sz : Int} {m : Nat} {x : Nat → Int} {L : List (List Int)} (h : okB sz m x = true) : aaR sz m x L = aaF sz m L x := by unfold aaR; rw [h]; rfl
theorem aaF_short {sz : Int} {m : Nat} {x : Nat → Int} {l : List Int} {L : List (List Int)} (h : l.length ≠ 2) : aaF sz m (l :: L) x = none := by
  unfold aaF; rw [if_neg (fun h2 => h h2.1)]
theorem aaF_no {sz : Int} {m : Nat} {x : Nat → Int} {v u : Int} {L : List (List Int)} (h : aeB sz m x v u = false) : aaF sz m ([v, u] :: L) x = none := by
  unfold aaF; rw [if_neg (fun h2 => by have := h2.2; simp [h] at this)]
theorem aaF_yes {sz : Int} {m : Nat} {x : Nat → Int} {v u : Int} {L : List (List Int)} (h : aeB sz m x v u = true) : aaF sz m ([v, u] :: L) x = aaF sz m L (aeX sz m x v u) := by
  rw [aaF, if_pos ⟨rfl, by simpa using h⟩]; simp
theorem aaF_bad {sz : Int} {m : Nat} {x : Nat → Int} {l : List Int} {L : List (List Int)} (h : okB sz m x = false) : aaF sz m (l :: L) x = none := by
  unfold aaF; rw [if_neg (fun h2 => by have := h2.2; rw [aeB_ok h] at this; cases this)]
theorem aeX_ok {sz : Int} {m : Nat} {x : Nat → Int} {v u : Int} (h : okB sz m x = true) : okB sz m (aeX sz m x v u) = true := by
  cases hb : aeB sz m x v u
  · rw [aeX_no hb]; exact h
  · obtain ⟨_, ⟨h1, h2, h3, h4, h5⟩, h6⟩ := aeB_parts hb
    obtain ⟨r, rfl, vg, hx⟩ := okB_ok' h
    refine okB_yes ⟨addN (fun i => (x i).toNat) v.toNat u.toNat, rfl, ?_, fun i hi => ?_⟩
    · exact (vg.congr (s := fun i => (x i).toNat) (fun i hi => by show r i = (x i).toNat; rw [hx i hi]; simp)).add (by omega) (by omega) (by omega)
    · unfold aeX; rw [hb]; rfl
end Go.Proofs.Ytnnlmdenffnjbaa
