/-
  How arguments read: claims; strings.
-/
import Derived.Test.YtnnlmdenffnjbaaGL
import Derived.Test.YtnnlmdenffnjbaaClaim
import Derived.ChangeMaps5
namespace Go.Proofs.Ytnnlmdenffnjbaa
open Go.ChangeShapes Go.WideShapes Go.ChangeAt Go.RowKit Go.Deep

theorem array7 {α : Type} {cs : Array α} (h : cs.size = 7) : ∃ c0 c1 c2 c3 c4 c5 c6, cs = #[c0, c1, c2, c3, c4, c5, c6] := by
  obtain ⟨l⟩ := cs
  match l, h with
  | [c0, c1, c2, c3, c4, c5, c6], _ => exact ⟨c0, c1, c2, c3, c4, c5, c6, rfl⟩

section
variable {H : Type} {enc : TypeId × Value → H} {P : Program} {w : World} {base : Nat} {spare : Nat → Bool} {held : Bool}
theorem trod2_cells {t : TypeId} {f0 f1 : Field} {fuel : Nat} {v0 v1 : Value} {y : DataW H × List MemPlace} (hs : P.underlying t = some (.struct #[f0, f1])) (hone : oneCellFields P #[f0, f1] = true) (h : DataW.trod enc P w base spare held fuel t [v0, v1] = some y) :
    ∃ (y0 y1 : DataW H × List MemPlace) (n : Nat), DataW.trod enc P w base spare held n f0.type [v0] = some y0 ∧ DataW.trod enc P w base spare held n f1.type [v1] = some y1 := by
  obtain ⟨y0, y1, n, _, _, h0, h1⟩ := trod_struct2 hs h
  obtain ⟨o0, k0⟩ := hone_of hone 0 f0 rfl
  obtain ⟨o1, k1⟩ := hone_of hone 1 f1 rfl
  exact ⟨y0, y1, n, by simpa [o0, k0] using h0, by simpa [o1, k1] using h1⟩
/-- A struct of seven cells in six fields, the second of two cells. -/
theorem open_agg7 {r : Reach} {b0 : Nat} {t : TypeId} {f0 f1 f2 f3 f4 f5 : Field} {v : Value} {d : DataW H} {p : List MemPlace} (hs : P.underlying t = some (.struct #[f0, f1, f2, f3, f4, f5]))
    (ho : f0.offset = 0 ∧ f1.offset = 1 ∧ f2.offset = 3 ∧ f3.offset = 4 ∧ f4.offset = 5 ∧ f5.offset = 6)
    (hk : P.cellsOf f0.type = 1 ∧ P.cellsOf f1.type = 2 ∧ P.cellsOf f2.type = 1 ∧ P.cellsOf f3.type = 1 ∧ P.cellsOf f4.type = 1 ∧ P.cellsOf f5.type = 1) (hC : P.cellsOf t = 7)
    (hv : Value.okWide P w r b0 t v) (h : DataW.Trod enc P w base spare held t v d p) :
    ∃ (v0 v1 v2 v3 v4 v5 v6 : Value) (y0 y1 y2 y3 y4 y5 : DataW H × List MemPlace) (n : Nat), v = .agg #[v0, v1, v2, v3, v4, v5, v6] ∧
      DataW.trod enc P w base spare held n f0.type [v0] = some y0 ∧ DataW.trod enc P w base spare held n f1.type [v1, v2] = some y1 ∧ DataW.trod enc P w base spare held n f2.type [v3] = some y2 ∧
      DataW.trod enc P w base spare held n f3.type [v4] = some y3 ∧ DataW.trod enc P w base spare held n f4.type [v5] = some y4 ∧ DataW.trod enc P w base spare held n f5.type [v6] = some y5 := by
  obtain ⟨cs, rfl, hsz⟩ := okWide_struct hs hv
  obtain ⟨c0, c1, c2, c3, c4, c5, c6, rfl⟩ := array7 (hsz.trans hC)
  obtain ⟨fuel, hf⟩ := h
  obtain ⟨xs, n, _, _, _, hlen, hff⟩ := DataW.trod_struct hs hf
  obtain ⟨o0, o1, o2, o3, o4, o5⟩ := ho
  obtain ⟨k0, k1, k2, k3, k4, k5⟩ := hk
  match xs, hlen with
  | [y0, y1, y2, y3, y4, y5], _ =>
    exact ⟨c0, c1, c2, c3, c4, c5, c6, y0, y1, y2, y3, y4, y5, n, rfl, by simpa [Value.cells, o0, k0] using hff 0 f0 rfl, by simpa [Value.cells, o1, k1] using hff 1 f1 rfl, by simpa [Value.cells, o2, k2] using hff 2 f2 rfl,
      by simpa [Value.cells, o3, k3] using hff 3 f3 rfl, by simpa [Value.cells, o4, k4] using hff 4 f4 rfl, by simpa [Value.cells, o5, k5] using hff 5 f5 rfl⟩
end

section
variable {H : Type} {enc : TypeId × Value → H} {w : World} {base : Nat} {spare : Nat → Bool} {held : Bool}
set_option maxRecDepth 100000 in
theorem open_graph_cells {fuel : Nat} {v0 v1 : Value} {y : DataW H × List MemPlace} (h : DataW.trod enc Try.prog w base spare held fuel 24 [v0, v1] = some y) :
    ∃ sz A n c x, v0 = .int .i64 sz ∧ v1 = .slice A n c ∧ Rd w w.heap.size A n c x ∧ n ≤ maxLen := by
  obtain ⟨y0, y1, n, h0, h1⟩ := trod2_cells Try.underlying24 (by kernel_rfl) h
  obtain ⟨sz, e0, _, _⟩ := DataW.trod_int Try.underlying3 h0
  simp only [List.cons.injEq, and_true] at e0
  obtain ⟨A, n, c, x, e1, hr, hn⟩ := open_intS h1
  exact ⟨sz, A, n, c, x, e0, e1, hr, hn⟩
theorem open_ss_cells {fuel : Nat} {vv : Value} {y : DataW H × List MemPlace} (hf : DataW.trod enc Try.prog w base spare held fuel 39 [vv] = some y) :
    ∃ A c D, vv = .slice A D.length c ∧ RdD w w.heap.size A c D ∧ D.length ≤ maxLen ∧ ∀ e ∈ D, e.2.2.length ≤ maxLen := by
  rcases open_slice1 Try.underlying39 (by kernel_rfl) hf with ⟨h0, _⟩ | ⟨ad, l, cp, m, n, V, D0, Pl, hcs, _, hl, hm, hmm, _, hi⟩
  · simp at h0
    subst h0
    exact ⟨none, 0, [], rfl, ⟨⟨Nat.le_refl _, fun h => absurd h (by simp)⟩, fun e he => by cases he⟩, Nat.zero_le _, fun e he => by cases he⟩
  · simp at hcs
    subst hcs
    have hall : ∀ i, i < l → ∃ (q : Dsc), w.cell? (ad.add i) = some (dv q) ∧ Rd w w.heap.size q.1 q.2.2.length q.2.1 (fun i => q.2.2.getD i 0) ∧ q.2.2.length ≤ maxLen := by
      intro i hin
      obtain ⟨c1, t1⟩ := hi i (by rw [hmm]; split <;> omega)
      obtain ⟨A, k, c, x, e1, hr, hk⟩ := open_intS t1
      refine ⟨(A, c, (List.range k).map x), ?_, ?_, by simpa using hk⟩
      · rw [c1, e1]; simp [dv]
      · simp only [List.length_map, List.length_range]
        exact hr.congr (fun j hj => by simp [List.getD, hj])
    obtain ⟨f, hff⟩ := choose_lt (n := l) (p := fun i (q : Dsc) => w.cell? (ad.add i) = some (dv q) ∧ Rd w w.heap.size q.1 q.2.2.length q.2.1 (fun i => q.2.2.getD i 0) ∧ q.2.2.length ≤ maxLen) hall
    have hlen : ((List.range l).map f).length = l := by simp
    refine ⟨some ad, cp, (List.range l).map f, by rw [hlen], ⟨⟨by rw [hlen]; exact hl, fun hn => ?_⟩, fun e he => ?_⟩, by rw [hlen]; omega, fun e he => ?_⟩
    · rw [hlen] at hn
      obtain ⟨b, o, s⟩ := ad
      have h0 := (hff 0 hn).1
      have hs : s = none := by simpa [Addr.add] using World.cell?_spot h0
      subst hs
      have hadd : ∀ k, (⟨b, o, none⟩ : Addr).add k = ⟨b, o + k, none⟩ := fun k => by unfold Addr.add; split <;> simp_all
      simp only [hadd] at hff h0
      refine ⟨b, o, rfl, World.block_lt_of_cell? w _ h0, fun k hk => ?_⟩
      rw [hlen] at hk
      rw [(hff k hk).1]
      unfold dvs
      simp [List.getD, hk]
    · obtain ⟨i, hi, rfl⟩ := List.mem_map.1 he
      exact (hff i (List.mem_range.1 hi)).2.1
    · obtain ⟨i, hi, rfl⟩ := List.mem_map.1 he
      exact (hff i (List.mem_range.1 hi)).2.2
set_option maxRecDepth 100000 in
theorem open_string_arg {r : Reach} {b0 : Nat} {vv : Value} {d : DataW H} {p : List MemPlace} (hv : Value.okWide Try.prog w r b0 9 vv)
    (h : DataW.Trod enc Try.prog w base spare held 9 vv d p) : ∃ t : ByteArray, vv = .string t ∧ t.size ≤ maxLen := by
  obtain ⟨t, e, _, _, hl⟩ := Go.ChangeMaps.open_string Try.underlying9 hv h
  exact ⟨t, e, hl⟩
end
end Go.Proofs.Ytnnlmdenffnjbaa
