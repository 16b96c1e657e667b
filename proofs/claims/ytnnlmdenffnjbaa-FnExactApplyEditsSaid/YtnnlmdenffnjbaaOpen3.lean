/-
  How arguments read: slices of slices of integers; integers; strings.
-/
import Derived.Test.YtnnlmdenffnjbaaOpen2
import Derived.Test.YtnnlmdenffnjbaaSS
import Derived.Deep.Slices
namespace Go.Proofs.Ytnnlmdenffnjbaa
open Go.ChangeShapes Go.WideShapes Go.ChangeAt Go.RowKit Go.Deep

section
variable {H : Type} {enc : TypeId × Value → H} {w : World} {base : Nat} {spare : Nat → Bool} {held : Bool}
set_option maxRecDepth 100000 in
theorem open_slice_int {r : Reach} {b0 : Nat} {vv : Value} {d : DataW H} {p : List MemPlace} (_hv : Value.okWide Try.prog w r b0 22 vv)
    (h : DataW.Trod enc Try.prog w base spare held 22 vv d p) : ∃ A n c x, vv = .slice A n c ∧ Rd w w.heap.size A n c x ∧ n ≤ maxLen := by
  obtain ⟨A0, n0, c0, rfl⟩ := okWide_slice Try.underlying22 _hv
  obtain ⟨fuel, hf⟩ := h
  exact open_intS hf
set_option maxRecDepth 100000 in
theorem open_ss {r : Reach} {b0 : Nat} {vv : Value} {d : DataW H} {p : List MemPlace} (hv : Value.okWide Try.prog w r b0 39 vv)
    (h : DataW.Trod enc Try.prog w base spare held 39 vv d p) :
    ∃ A c D, vv = .slice A D.length c ∧ RdD w w.heap.size A c D ∧ D.length ≤ maxLen ∧ ∀ e ∈ D, e.2.2.length ≤ maxLen := by
  obtain ⟨A0, n0, c0, rfl⟩ := okWide_slice Try.underlying39 hv
  obtain ⟨fuel, hf⟩ := h
  rcases open_slice1 Try.underlying39 (by kernel_rfl) hf with ⟨h0, _⟩ | ⟨ad, l, cp, m, n, V, D0, Pl, hcs, _, hl, hm, hmm, _, hi⟩
  · simp [Value.cells] at h0
    obtain ⟨rfl, rfl, rfl⟩ := h0
    exact ⟨none, 0, [], rfl, ⟨⟨Nat.le_refl _, fun h => absurd h (by simp)⟩, fun e he => by cases he⟩, Nat.zero_le _, fun e he => by cases he⟩
  · simp [Value.cells] at hcs
    obtain ⟨rfl, rfl, rfl⟩ := hcs
    have hall : ∀ i, i < n0 → ∃ (q : Dsc), w.cell? (ad.add i) = some (dv q) ∧ Rd w w.heap.size q.1 q.2.2.length q.2.1 (fun i => q.2.2.getD i 0) ∧ q.2.2.length ≤ maxLen := by
      intro i hin
      obtain ⟨c1, t1⟩ := hi i (by rw [hmm]; split <;> omega)
      obtain ⟨A, k, c, x, e1, hr, hk⟩ := open_intS t1
      refine ⟨(A, c, (List.range k).map x), ?_, ?_, by simpa using hk⟩
      · rw [c1, e1]; simp [dv]
      · simp only [List.length_map, List.length_range]
        exact hr.congr (fun j hj => by simp [List.getD, hj])
    obtain ⟨f, hff⟩ := choose_lt (n := n0) (p := fun i (q : Dsc) => w.cell? (ad.add i) = some (dv q) ∧ Rd w w.heap.size q.1 q.2.2.length q.2.1 (fun i => q.2.2.getD i 0) ∧ q.2.2.length ≤ maxLen) hall
    have hlen : ((List.range n0).map f).length = n0 := by simp
    refine ⟨some ad, c0, (List.range n0).map f, by rw [hlen], ⟨⟨by rw [hlen]; exact hl, fun hn => ?_⟩, fun e he => ?_⟩, by rw [hlen]; omega, fun e he => ?_⟩
    · rw [hlen] at hn
      obtain ⟨b, o, s⟩ := ad
      have h0 := (hff 0 hn).1
      have hs : s = none := by simpa [Addr.add] using World.cell?_spot h0
      subst hs
      have hadd : ∀ k, (⟨b, o, none⟩ : Addr).add k = ⟨b, o + k, none⟩ := fun k => by unfold Addr.add; split <;> simp_all
      simp only [hadd] at hff h0
      refine ⟨b, o, rfl, World.block_lt_of_cell? w _ h0, fun k hk => ?_⟩
      rw [hlen] at hk
      rw [(hff k hk).1]
      unfold dvs
      simp [List.getD, hk]
    · obtain ⟨i, hi, rfl⟩ := List.mem_map.1 he
      exact (hff i (List.mem_range.1 hi)).2.1
    · obtain ⟨i, hi, rfl⟩ := List.mem_map.1 he
      exact (hff i (List.mem_range.1 hi)).2.2
set_option maxRecDepth 100000 in
theorem open_int_arg {r : Reach} {b0 : Nat} {vv : Value} {d : DataW H} {p : List MemPlace} (hv : Value.okWide Try.prog w r b0 3 vv)
    (h : DataW.Trod enc Try.prog w base spare held 3 vv d p) : ∃ i, vv = .int .i64 i := by
  obtain ⟨i, e, _⟩ := open_int Try.underlying3 hv h
  exact ⟨i, e⟩
end
end Go.Proofs.Ytnnlmdenffnjbaa
