/-
  Plain: how many edges a minimal fill has; the two contracts in the words of the law.
-/
import Derived.Test.YtnnlmdenffnjbaaMinS
namespace Go.Proofs.Ytnnlmdenffnjbaa
open Go.RowKit

section
variable {sz : Int} {m : Nat} {x : Nat → Int}
theorem mrK_mem : ∀ (k : Nat) (L : List (List Int)) {e : List Int}, e ∈ mrK sz m x k L → e ∈ L
  | 0, _, _, h => h
  | k + 1, L, e, h => by
    rw [mrK] at h
    have := mrK_mem k _ h
    split at this
    · exact List.mem_of_mem_eraseIdx this
    · exact this
theorem mfL_in : ∀ (n : Nat) (L : List (List Int)), L.length ≤ n → (mfL sz m x L).length ≤ L.length ∧ ∀ e ∈ mfL sz m x L, e ∈ L := by
  intro n
  induction n with
  | zero =>
    intro L h
    rw [mfL_done (by omega)]
    exact ⟨Nat.le_refl _, fun e he => he⟩
  | succ n ih =>
    intro L h
    by_cases hl : (mrK sz m x L.length L).length < L.length
    · rw [mfL_more hl]
      have := ih (mrK sz m x L.length L) (by omega)
      exact ⟨by omega, fun e he => mrK_mem _ _ (this.2 e he)⟩
    · rw [mfL_done hl]
      exact ⟨Nat.le_refl _, fun e he => he⟩
theorem miL_two : (miL sz m x).length ≤ 21 ∧ ∀ e ∈ miL sz m x, e.length = 2 := by
  cases h : lxB sz m x 0
  · rw [miL_no h]; exact ⟨Nat.zero_le _, fun e he => by cases he⟩
  · rw [miL_yes h]
    unfold lxB at h
    rw [Bool.and_eq_true] at h
    obtain ⟨_, es, vg0, _⟩ := okB_ok' h.2
    have h2 := fofL_two (sz := sz) (x := x) (l := ci (lxL sz m x 0).reverse) vg0.n7
    have h3 := mfL_in (sz := sz) (m := m) (x := x) _ (fofL sz m x (ci (lxL sz m x 0).reverse)) (Nat.le_refl _)
    exact ⟨by omega, fun e he => h2.2 e (h3.2 e he)⟩
theorem mi_len {D : List Dsc} (h : lists D = miL sz m x) : D.length ≤ 1073741824 := by
  rw [← lists_len, h]; have := miL_two (sz := sz) (m := m) (x := x); omega
theorem mi_tot {D : List Dsc} (h : lists D = miL sz m x) : tot D ≤ 1073741824 := by
  have h2 := miL_two (sz := sz) (m := m) (x := x)
  have h3 : D.length ≤ 21 := by rw [← lists_len, h]; exact h2.1
  rw [tot_two (by rw [h]; exact h2.2)]
  omega
end
theorem MinimalFill_sL (s1 : Int) (A1 : Option Addr) (m1 c1 : Nat) (x1 : Nat → Int) (w : World) (B : Nat) (h1 : Rd w B A1 m1 c1 x1) (hB : B ≤ w.heap.size) (hm1 : m1 ≤ 1048576) :
    Calls Try.prog 43 #[.agg #[.int .i64 s1, .slice A1 m1 c1]] w fun e w' => ∃ A' c' D, e = .returned (.tuple #[.slice A' D.length c', .bool (lxB s1 m1 x1 0)]) ∧ lists D = miL s1 m1 x1 ∧ OwnD w' w.heap.size w'.heap.size A' c' D ∧ Below w.heap.size w w' :=
  MinimalFill_s s1 A1 m1 c1 x1 w ⟨h1.keep (Below.refl _ _) hB⟩ hm1
theorem MinimalFill_iL (s1 : Int) (A1 : Option Addr) (m1 c1 : Nat) (x1 : Nat → Int) (w : World) (B : Nat) (h1 : Rd w B A1 m1 c1 x1) (hB : B ≤ w.heap.size) (hm1 : m1 ≤ 1048576) :
    Calls Try.prog 44 #[.agg #[.int .i64 s1, .slice A1 m1 c1]] w fun e w' => ∃ A' c' D, e = .returned (.tuple #[.slice A' D.length c', .bool (lxB s1 m1 x1 0)]) ∧ lists D = miL s1 m1 x1 ∧ OwnD w' w.heap.size w'.heap.size A' c' D ∧ Below w.heap.size w w' :=
  MinimalFill_i s1 A1 m1 c1 x1 w ⟨h1.keep (Below.refl _ _) hB⟩ hm1
end Go.Proofs.Ytnnlmdenffnjbaa
